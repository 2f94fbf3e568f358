/-
  Lemmas (walks and plain laws), in one text.
-/
import Derived.Test.YtbidnflcbgnckaaPt1
import Derived.IntWalk
import Derived.Outline
import Derived.StillTail
import Derived.Laws.Rows
import Derived.Laws.Tables
import Derived.ChangeKeysEq
import Derived.Laws.StructEq
import Derived.Test.YtbidnflcbgnckaaProg
import Derived.Deep.CutBlock
import Derived.Deep.DeepCutAuto
namespace Go.Proofs.Ytbidnflcbgnckaa
open Go.RowKit

def intV (s : List UInt8) (most : Int) : Int := match intR s most with | some n => n | none => 0
def intOk (s : List UInt8) (most : Int) : Bool := (intR s most).isSome
theorem intR_none {s : List UInt8} {most : Int} (h : intR s most = none) : intV s most = 0 ∧ intOk s most = false := by unfold intV intOk; rw [h]; exact ⟨rfl, rfl⟩
theorem intR_some {s : List UInt8} {most : Int} {n : Nat} (h : intR s most = some n) : intV s most = n ∧ intOk s most = true := by unfold intV intOk; rw [h]; exact ⟨rfl, rfl⟩
theorem intF_lt : ∀ (s : List UInt8) (n m : Nat), intF n s = some m → m < (n + 1) * 10 ^ s.length
  | [], n, m, h => by simp only [intF, Option.some.injEq] at h; subst h; simp
  | c :: s, n, m, h => by
    rw [intF] at h
    split at h
    · have := intF_lt s _ m h
      have e : (10 * n + (c.toNat - 48) + 1) * 10 ^ s.length ≤ (n + 1) * 10 * 10 ^ s.length := Nat.mul_le_mul_right _ (by omega)
      rw [List.length_cons, Nat.pow_succ]
      rw [Nat.mul_comm (10 ^ s.length) 10, ← Nat.mul_assoc]; omega
    · cases h
/-- How far a number's text has been read. -/
def IntAt (s : List UInt8) (k n : Nat) : Prop := intF 0 s = intF n (s.drop k) ∧ n < 10 ^ k
theorem IntAt.start (s : List UInt8) : IntAt s 0 0 := ⟨rfl, by simp⟩
theorem IntAt.next {s : List UInt8} {k n : Nat} (h : IntAt s k n) (hk : k < s.length) (h1 : 48 ≤ s[k].toNat) (h2 : s[k].toNat ≤ 57) : IntAt s (k + 1) (10 * n + (s[k].toNat - 48)) := by
  refine ⟨?_, ?_⟩
  · rw [h.1, List.drop_eq_getElem_cons hk, intF, if_pos ⟨h1, h2⟩]
  · have := h.2
    rw [Nat.pow_succ]; omega
theorem IntAt.bad {s : List UInt8} {k n : Nat} (h : IntAt s k n) (hk : k < s.length) (h1 : ¬ (48 ≤ s[k].toNat ∧ s[k].toNat ≤ 57)) : intF 0 s = none := by
  rw [h.1, List.drop_eq_getElem_cons hk, intF, if_neg h1]
theorem IntAt.done {s : List UInt8} {n : Nat} (h : IntAt s s.length n) : intF 0 s = some n := by
  rw [h.1, List.drop_length, intF]
theorem head_zero {s : List UInt8} (h : 0 < s.length) : (s.head? = some 48) = (s[0].toNat = 48) := by
  cases s with
  | nil => simp at h
  | cons c s =>
    simp only [List.head?_cons, Option.some.injEq, List.getElem_cons_zero, eq_iff_iff]
    constructor
    · intro h; subst h; rfl
    · intro h; have : c = UInt8.ofNat c.toNat := by simp
      rw [this, h]; rfl
theorem str_beq_nil {s : List UInt8} (h : s ≠ []) : s.isEmpty = false := by cases s <;> simp_all

set_option maxHeartbeats 1000000 in
set_option maxRecDepth 4000 in
theorem c_bits_Int (s : List UInt8) (most : Int) (w : World) (hs : s.length ≤ 4294967296) : Calls Try.prog 46 #[.string (str s), .int .i64 most] w (RetV w (.tuple #[.int .i64 (intV s most), .bool (intOk s most)])) := by
  by_cases hb : s = [] ∨ 13 < s.length ∨ (1 < s.length ∧ s.head? = some 48)
  · have hn : intR s most = none := by unfold intR; rw [if_pos hb]
    rw [(intR_none hn).1, (intR_none hn).2]
    clear hn
    rcases hb with rfl | hb | ⟨h1, h2⟩
    · go_enter Try.func46, Try.ntmps46
      go_wp2_with (fail)
      go_ret2
      exact RetV.of rfl (by repeat (first | exact Below.refl _ _ | refine Below.drew ?_ | refine Below.alloc ?_ (by first | omega | (simp; done) | (simp; omega)) _ | refine Below.setCell ?_ (by first | omega | (simp; done) | (simp; omega)) _ | refine Below.trans ?_ (Below.mono (by assumption) (by first | omega | (simp; done) | (simp; omega)))))
    · have he := str_beq_nil (s := s) (by intro h; subst h; simp at hb)
      have h13 : decide ((13 : Int) < (s.length : Int)) = true := by simp; omega
      go_enter Try.func46, Try.ntmps46
      go_wp2_with (fail)
      all_goals (go_ret2; exact RetV.of rfl (by repeat (first | exact Below.refl _ _ | refine Below.drew ?_ | refine Below.alloc ?_ (by first | omega | (simp; done) | (simp; omega)) _ | refine Below.setCell ?_ (by first | omega | (simp; done) | (simp; omega)) _ | refine Below.trans ?_ (Below.mono (by assumption) (by first | omega | (simp; done) | (simp; omega))))))
    · rw [head_zero (by omega)] at h2
      have h0 : 0 < s.length := by omega
      have hz : ((s[0].toNat : Int) == 48) = true := by simp; omega
      go_enter Try.func46, Try.ntmps46
      go_wp2_with (fail)
      all_goals (go_ret2; exact RetV.of rfl (by repeat (first | exact Below.refl _ _ | refine Below.drew ?_ | refine Below.alloc ?_ (by first | omega | (simp; done) | (simp; omega)) _ | refine Below.setCell ?_ (by first | omega | (simp; done) | (simp; omega)) _ | refine Below.trans ?_ (Below.mono (by assumption) (by first | omega | (simp; done) | (simp; omega))))))
  · have hne : s ≠ [] := fun h => hb (.inl h)
    have hlen : s.length ≤ 13 := Nat.le_of_not_lt fun h => hb (.inr (.inl h))
    have h0 : 0 < s.length := by
      rcases Nat.eq_zero_or_pos s.length with h | h
      · exact absurd (List.eq_nil_of_length_eq_zero h) hne
      · exact h
    have hz : 1 < s.length → ((s[0].toNat : Int) == 48) = false := fun h1 => by
      have : ¬ s[0].toNat = 48 := fun h => hb (.inr (.inr ⟨h1, by rw [head_zero h0]; exact h⟩))
      simp; omega
    have hR : intR s most = match intF 0 s with | none => none | some n => if most < (n : Int) ∨ 1099511627776 < n then none else some n := by unfold intR; rw [if_neg hb] <;> rfl
    have HR := Lib.hid hR
    have he := str_beq_nil hne
    have h13 : decide ((13 : Int) < (s.length : Int)) = false := by simp; omega
    clear hR hb hne
    have key : Calls Try.prog 46 #[.string (str s), .int .i64 most] w (RetV w (.tuple #[.int .i64 (intV s most), .bool (intOk s most)])) := by
      by_cases h1 : 1 < s.length
      all_goals
        first
          | (have hz1 := hz h1; have h1' : decide ((1 : Int) < (s.length : Int)) = true := by simp; omega)
          | (have h1' : decide ((1 : Int) < (s.length : Int)) = false := by simp; omega)
        clear hz h1
        go_enter Try.func46, Try.ntmps46
        go_wp2_with (with_reducible refine stop_conv 9 29 (.tmp 26) rfl rfl ?_)
        refine Stop.mk (wpList_strbytes rfl _ _ (.tmp 26) rfl Try.underlying9 Try.underlying29 Try.underlying5 s rfl hs ?_)
        intro A c w1 hlaid
        have hb1 := hlaid.below
        have Hl := Lib.hid hlaid
        clear hlaid
        go_wp2_with (fail)
        go_loopw [6, 29] (fun n i wr => ∃ k m : Nat, Hid (IntAt s k m) ∧ k ≤ s.length ∧ i = .int .i64 k ∧ n = .int .i64 m ∧ wr = w1) (fun _ i _ => s.length - (intOf i).toNat)
        case atStart => exact ⟨0, 0, IntAt.start s, by omega, rfl, rfl, rfl⟩
        case round =>
          obtain ⟨k, m, hp, hk, rfl, rfl, rfl⟩ := hrel
          have hm := hp.out.2
          have hm13 : m < 10 ^ 13 := Nat.lt_of_lt_of_le hm (Nat.pow_le_pow_right (by omega) (by omega))
          clear hm
          by_cases hlt : k < s.length
          · obtain ⟨b, off, rfl, hbb, hrow⟩ := Hl.out.reads.at hlt
            have e0 : wr.cell? ⟨b, off + k, none⟩ = some (.int .u8 s[k].toNat) := by have := hrow k hlt 0 _ rfl; simpa using this
            have hk0 : (0 : Int) ≤ (k : Int) := by omega
            have hk1 : (k : Int) < (s.length : Int) := by omega
            have h256 := s[k].toNat_lt
            by_cases hd : 48 ≤ s[k].toNat ∧ s[k].toNat ≤ 57
            · have hp2 := Lib.hid (hp.out.next hlt hd.1 hd.2)
              have hd1 : decide ((s[k].toNat : Int) < 48) = false := by simp; omega
              have hd2 : decide ((57 : Int) < (s[k].toNat : Int)) = false := by simp; omega
              have hd3 := hd.1
              have hd4 := hd.2
              clear hrow hd hp
              go_wp2_with (fail)
              go_roundw
              case rel => exact ⟨k + 1, 10 * m + (s[k].toNat - 48), hp2.out, by omega, by go_num, by first | rfl | (congr 1; push_cast; omega) | (simp; omega), by first | rfl | trivial⟩
              case measure => simp [intOf]; omega
            · have hn : intR s most = none := by rw [HR.out, hp.out.bad hlt hd]
              have HN1 := Lib.hid (intR_none hn).1
              have HN2 := Lib.hid (intR_none hn).2
              clear hn hrow hp HR
              by_cases hd1 : s[k].toNat < 48
              all_goals
                first
                  | (have hd2 : decide ((s[k].toNat : Int) < 48) = true := by simp; omega)
                  | ((have hd2 : decide ((s[k].toNat : Int) < 48) = false := by simp; omega); (have hd3 : decide ((57 : Int) < (s[k].toNat : Int)) = true := by simp; omega))
                clear hd1 hd
                go_wp2_with (fail)
                go_ret2
                rw [HN1.out, HN2.out]
                exact RetV.of rfl hb1
          · obtain rfl : k = s.length := by omega
            have hdone := hp.out.done
            have hmm := intF_lt s 0 m hdone
            clear hp hlt
            by_cases hlong : most < (m : Int) ∨ 1099511627776 < m
            · have hn : intR s most = none := by rw [HR.out, hdone]; simp only; rw [if_pos hlong]
              have HN1 := Lib.hid (intR_none hn).1
              have HN2 := Lib.hid (intR_none hn).2
              have hmin : decide (min most 1099511627776 < (m : Int)) = true := by simp; omega
              clear hn hdone HR hlong
              go_wp2_with (fail)
              go_ret2
              rw [HN1.out, HN2.out]
              exact RetV.of rfl hb1
            · have hn : intR s most = some m := by rw [HR.out, hdone]; simp only; rw [if_neg hlong]
              have HN1 := Lib.hid (intR_some hn).1
              have HN2 := Lib.hid (intR_some hn).2
              have hmin : decide (min most 1099511627776 < (m : Int)) = false := by simp; omega
              clear hn hdone HR hlong
              go_wp2_with (fail)
              go_ret2
              rw [HN1.out, HN2.out]
              exact RetV.of rfl hb1
    exact key
set_option maxHeartbeats 1000000 in
set_option maxRecDepth 4000 in
theorem c_ref03_Int (s : List UInt8) (most : Int) (w : World) (hs : s.length ≤ 4294967296) : Calls Try.prog 37 #[.string (str s), .int .i64 most] w (RetV w (.tuple #[.int .i64 (intV s most), .bool (intOk s most)])) := by
  by_cases hb : s = [] ∨ 13 < s.length
  · have hn : intR s most = none := by unfold intR; rw [if_pos (hb.elim (fun h => .inl h) (fun h => .inr (.inl h)))]
    rw [(intR_none hn).1, (intR_none hn).2]
    clear hn
    rcases hb with rfl | hb
    · go_enter Try.func37, Try.ntmps37
      go_wp2_with (fail)
      go_ret2
      exact RetV.of rfl (by repeat (first | exact Below.refl _ _ | refine Below.drew ?_ | refine Below.alloc ?_ (by first | omega | (simp; done) | (simp; omega)) _ | refine Below.setCell ?_ (by first | omega | (simp; done) | (simp; omega)) _ | refine Below.trans ?_ (Below.mono (by assumption) (by first | omega | (simp; done) | (simp; omega)))))
    · have hz : ((s.length : Int) == 0) = false := by simp; intro h; subst h; simp at hb
      have h13 : decide ((13 : Int) < (s.length : Int)) = true := by simp; omega
      go_enter Try.func37, Try.ntmps37
      go_wp2_with (fail)
      go_ret2
      exact RetV.of rfl (by repeat (first | exact Below.refl _ _ | refine Below.drew ?_ | refine Below.alloc ?_ (by first | omega | (simp; done) | (simp; omega)) _ | refine Below.setCell ?_ (by first | omega | (simp; done) | (simp; omega)) _ | refine Below.trans ?_ (Below.mono (by assumption) (by first | omega | (simp; done) | (simp; omega)))))
  · have hne : s ≠ [] := fun h => hb (.inl h)
    have hlen : s.length ≤ 13 := Nat.le_of_not_lt fun h => hb (.inr h)
    have h0 : 0 < s.length := by
      rcases Nat.eq_zero_or_pos s.length with h | h
      · exact absurd (List.eq_nil_of_length_eq_zero h) hne
      · exact h
    have hR : intR s most = if 1 < s.length ∧ s[0].toNat = 48 then none else match intF 0 s with | none => none | some n => if most < (n : Int) ∨ 1099511627776 < n then none else some n := by
      unfold intR
      by_cases h : 1 < s.length ∧ s[0].toNat = 48
      · rw [if_pos (.inr (.inr ⟨h.1, (head_zero h0).mpr h.2⟩)), if_pos h]
      · rw [if_neg (fun h1 => h1.elim hne (fun h1 => h1.elim (fun h2 => by omega) (fun h2 => h ⟨h2.1, (head_zero h0).mp h2.2⟩))), if_neg h]
        first | done | rfl
    have HR := Lib.hid hR
    have hz : ((s.length : Int) == 0) = false := by simp; omega
    have h13 : decide ((13 : Int) < (s.length : Int)) = false := by simp; omega
    clear hR hb hne
    go_enter Try.func37, Try.ntmps37
    go_wp2_with (fail)
    go_loop [6, 7] (fun n i => ∃ k m : Nat, Hid (IntAt s k m) ∧ k ≤ s.length ∧ i = .int .i64 k ∧ n = .int .i64 m) (fun _ i => s.length - (intOf i).toNat)
    case atStart => exact ⟨0, 0, IntAt.start s, by omega, rfl, rfl⟩
    case round =>
      obtain ⟨k, m, hp, hk, rfl, rfl⟩ := hrel
      have hm := hp.out.2
      have hm13 : m < 10 ^ 13 := Nat.lt_of_lt_of_le hm (Nat.pow_le_pow_right (by omega) (by omega))
      clear hm
      by_cases hlt : k < s.length
      · have h256 := s[k].toNat_lt
        by_cases hd : 48 ≤ s[k].toNat ∧ s[k].toNat ≤ 57
        · have hp2 := Lib.hid (hp.out.next hlt hd.1 hd.2)
          have hd1 : decide ((s[k].toNat : Int) < 48) = false := by simp; omega
          have hd2 : decide ((57 : Int) < (s[k].toNat : Int)) = false := by simp; omega
          have hd3 := hd.1
          have hd4 := hd.2
          clear hd hp
          go_wp2_with (fail)
          go_round
          case rel => exact ⟨k + 1, _, hp2.out, by omega, by go_num, by go_num⟩
          case measure => simp [intOf]; omega
        · have hn : intR s most = none := by rw [HR.out, hp.out.bad hlt hd]; split <;> rfl
          have HN1 := Lib.hid (intR_none hn).1
          have HN2 := Lib.hid (intR_none hn).2
          clear hn hp HR
          by_cases hd1 : s[k].toNat < 48
          all_goals
            first
              | (have hd2 : decide ((s[k].toNat : Int) < 48) = true := by simp; omega)
              | ((have hd2 : decide ((s[k].toNat : Int) < 48) = false := by simp; omega); (have hd3 : decide ((57 : Int) < (s[k].toNat : Int)) = true := by simp; omega))
            clear hd1 hd
            go_wp2_with (fail)
            go_ret2
            rw [HN1.out, HN2.out]
            exact RetV.of rfl (Below.refl _ _)
      · obtain rfl : k = s.length := by omega
        have hdone := hp.out.done
        have hn : intR s most = if 1 < s.length ∧ s[0].toNat = 48 then none else if most < (m : Int) ∨ 1099511627776 < m then none else some m := by rw [HR.out, hdone]
        have hn2 : intR s most = if ((((s[0].toNat : Int) == 48) && decide ((1 : Int) < (s.length : Int))) || (decide (most < (m : Int)) || decide ((1099511627776 : Int) < (m : Int)))) = true then none else some m := by
          rw [hn]
          simp only [Bool.or_eq_true, Bool.and_eq_true, beq_iff_eq, decide_eq_true_eq]
          by_cases h1 : 1 < s.length ∧ s[0].toNat = 48
          · rw [if_pos h1, if_pos (.inl ⟨by omega, by omega⟩)]
          · rw [if_neg h1]
            by_cases h2 : most < (m : Int) ∨ 1099511627776 < m
            · rw [if_pos h2, if_pos (.inr (h2.elim .inl (fun h => .inr (by omega))))]
            · rw [if_neg h2, if_neg (fun h => h.elim (fun h => h1 ⟨by omega, by omega⟩) (fun h => h2 (h.elim .inl (fun h => .inr (by omega)))))]
        clear hp hlt HR hdone hn
        cases q1 : ((s[0].toNat : Int) == 48)
        all_goals
          cases q2 : decide ((1 : Int) < (s.length : Int))
          all_goals
            cases q3 : decide (most < (m : Int))
            all_goals
              cases q4 : decide ((1099511627776 : Int) < (m : Int))
              all_goals
                rw [q1, q2, q3, q4] at hn2
                simp only [Bool.and_true, Bool.and_false, Bool.or_true, Bool.or_false, if_true, if_false, Bool.false_eq_true] at hn2
                have HV := Lib.hid (show (intV s most, intOk s most) = (match intR s most with | some n => ((n : Int), true) | none => (0, false)) by unfold intV intOk; cases intR s most <;> rfl)
                rw [hn2] at HV
                have HN1 := Lib.hid (congrArg Prod.fst HV.out)
                have HN2 := Lib.hid (congrArg Prod.snd HV.out)
                simp only at HN1 HN2
                clear hn2 HV
                go_wp2_with (fail)
                go_ret2
                rw [HN1.out, HN2.out]
                exact RetV.of rfl (Below.refl _ _)
end Go.Proofs.Ytbidnflcbgnckaa
namespace Go.Proofs.Ytbidnflcbgnckaa
open Go.RowKit

set_option maxHeartbeats 1000000 in
theorem ref03_Tens_low (n : Nat) (h : n < 10) (w : World) : Calls Try.prog 19 #[.int .i64 n] w (RetV w (.string (str (tens n)))) := by
  have kc := fun (w : World) (x : Int) => conv_one (P := Try.prog) w (src := 29) (dst := 9) (e := 5) Try.underlying29 Try.underlying5 Try.underlying9 x
  have H := Lib.hid (tens_lt h)
  have d1 : decide ((n : Int) < 0) = false := by simp
  have d2 : decide ((n : Int) < 10) = true := by simp; omega
  go_enter Try.func19, Try.ntmps19
  go_wp2_with (fail)
  go_ret
  refine RetV.str ?_ (by repeat (first | exact Below.refl _ _ | refine Below.drew ?_ | refine Below.alloc ?_ (by first | omega | (simp; done) | (simp; omega)) _ | refine Below.setCell ?_ (by first | omega | (simp; done) | (simp; omega)) _ | refine Below.trans ?_ (Below.mono (by assumption) (by first | omega | (simp; done) | (simp; omega)))))
  rw [H.out]
  congr 2
  omega
set_option maxHeartbeats 1000000 in
theorem ref03_Tens_high (n : Nat) (h : ¬ n < 10) (hn : n ≤ 9223372036854775807) (w : World) (ih : ∀ w', Calls Try.prog 19 #[.int .i64 ((n / 10 : Nat) : Int)] w' (RetV w' (.string (str (tens (n / 10)))))) :
    Calls Try.prog 19 #[.int .i64 n] w (RetV w (.string (str (tens n)))) := by
  have kc := fun (w : World) (x : Int) => conv_one (P := Try.prog) w (src := 29) (dst := 9) (e := 5) Try.underlying29 Try.underlying5 Try.underlying9 x
  have H := Lib.hid (tens_ge h)
  have IH := Lib.hid ih
  have hl := tens_len (n / 10) 19 (by omega) (by omega)
  have d1 : decide ((n : Int) < 0) = false := by simp
  have d2 : decide ((n : Int) < 10) = false := by simp; omega
  clear ih h
  go_enter Try.func19, Try.ntmps19
  go_wp2_with (fail)
  refine (IH.out _).mono ?_
  rintro e w2 ⟨rfl, hb2⟩
  have hB := Lib.hid (show Below w.heap.size w w2 from Below.trans (by repeat (first | exact Below.refl _ _ | refine Below.drew ?_ | refine Below.alloc ?_ (by first | omega | (simp; done) | (simp; omega)) _ | refine Below.setCell ?_ (by first | omega | (simp; done) | (simp; omega)) _ | refine Below.trans ?_ (Below.mono (by assumption) (by first | omega | (simp; done) | (simp; omega))))) (hb2.mono (by simp)))
  clear hb2
  go_wp2_with (fail)
  go_ret
  refine RetV.str ?_ hB.out
  rw [H.out, UInt8.ofNat_add]
  rfl
theorem c_ref03_Tens (n : Nat) (hn : n ≤ 9223372036854775807) (w : World) : Calls Try.prog 19 #[.int .i64 n] w (RetV w (.string (str (tens n)))) := by
  induction n using Nat.strongRecOn generalizing w with
  | _ n ih =>
    by_cases h : n < 10
    · exact ref03_Tens_low n h w
    · exact ref03_Tens_high n h hn w (fun w' => ih (n / 10) (by omega) (by omega) w')
set_option maxHeartbeats 400000 in
theorem c_value_hex (c : UInt8) (w : World) : Calls Try.prog 66 #[.int .u8 c.toNat] w (RetV w (.int .u8 (hexV c))) := by
  have hc := c.toNat_lt
  go_enter Try.func66, Try.ntmps66
  go_wp2_with (fail)
  all_goals (go_ret; refine RetV.int ?_ (by repeat (first | exact Below.refl _ _ | refine Below.drew ?_ | refine Below.alloc ?_ (by first | omega | (simp; done) | (simp; omega)) _ | refine Below.setCell ?_ (by first | omega | (simp; done) | (simp; omega)) _ | refine Below.trans ?_ (Below.mono (by assumption) (by first | omega | (simp; done) | (simp; omega))))); unfold hexV; (repeat' split) <;> omega)
def hexI (c : UInt8) : Int := if hexV c ≤ 15 then hexV c else -1
set_option maxHeartbeats 400000 in
theorem c_ref04_hex (c : UInt8) (w : World) : Calls Try.prog 65 #[.int .u8 c.toNat] w (RetV w (.int .i64 (hexI c))) := by
  have hc := c.toNat_lt
  go_enter Try.func65, Try.ntmps65
  go_wp2_with (fail)
  all_goals (go_ret; refine RetV.int ?_ (by repeat (first | exact Below.refl _ _ | refine Below.drew ?_ | refine Below.alloc ?_ (by first | omega | (simp; done) | (simp; omega)) _ | refine Below.setCell ?_ (by first | omega | (simp; done) | (simp; omega)) _ | refine Below.trans ?_ (Below.mono (by assumption) (by first | omega | (simp; done) | (simp; omega))))); unfold hexI hexV; (repeat' split) <;> omega)
theorem digit_at (n : Nat) (h : n < 16) : (([48, 49, 50, 51, 52, 53, 54, 55, 56, 57, 97, 98, 99, 100, 101, 102] : List UInt8).drop n).take 1 = [hexD n] := by
  have : ∀ i : Fin 16, (([48, 49, 50, 51, 52, 53, 54, 55, 56, 57, 97, 98, 99, 100, 101, 102] : List UInt8).drop i.val).take 1 = [hexD i.val] := by decide
  exact this ⟨n, h⟩
set_option maxHeartbeats 400000 in
theorem c_ref04_digit (n : Nat) (h : n < 16) (w : World) : Calls Try.prog 41 #[.int .i64 n] w (RetV w (.string (str [hexD n]))) := by
  have hd := digit_at n h
  have Hd := Lib.hid hd
  clear hd
  go_enter Try.func41, Try.ntmps41
  go_wp2_with (fail)
  go_ret
  refine RetV.str ?_ (by repeat (first | exact Below.refl _ _ | refine Below.drew ?_ | refine Below.alloc ?_ (by first | omega | (simp; done) | (simp; omega)) _ | refine Below.setCell ?_ (by first | omega | (simp; done) | (simp; omega)) _ | refine Below.trans ?_ (Below.mono (by assumption) (by first | omega | (simp; done) | (simp; omega)))))
  rw [← Hd.out]
  first | done | (have h1 : n + 1 - n = 1 := by omega
                  simp [h1])
end Go.Proofs.Ytbidnflcbgnckaa
namespace Go.Proofs.Ytbidnflcbgnckaa
open Go.RowKit

/-- What is told of an operation's value. -/
structure Sp where
  holds : Value → World → Prop
  stays : ∀ v w w', holds v w → Below w.heap.size w w' → holds v w'
def Sp.any : Sp := ⟨fun _ _ => True, fun _ _ _ _ _ => trivial⟩
def Sp.eq (x : Value) : Sp := ⟨fun v _ => v = x, fun _ _ _ h _ => h⟩
def Sp.slice {α : Type} (k : Nat) (cs : α → List Value) (l : List α) : Sp := ⟨fun v w => ∃ A c, v = .slice A l.length c ∧ In k cs w A c l, fun _ _ _ ⟨A, c, hv, h⟩ hb => ⟨A, c, hv, h.below hb⟩⟩
theorem Sp.eq_holds (x v : Value) (w : World) : (Sp.eq x).holds v w = (v = x) := rfl
theorem Sp.slice_holds {α : Type} (k : Nat) (cs : α → List Value) (l : List α) (v : Value) (w : World) : (Sp.slice k cs l).holds v w = ∃ A c, v = .slice A l.length c ∧ In k cs w A c l := rfl

def dstOf (ops : Array Oper) (j : Nat) : Option Tmp := (ops[j]?).bind (·.dst)
/-- The frame with all values put. -/
def putAll (u : Nat → Value) : List Oper → Nat → Act → Act
  | [], _, a => a
  | o :: r, i, a => putAll u r (i + 1) (a.put o.dst (u i))
/-- The frame with the values of what is waited for. -/
def putDeps (ops : Array Oper) (u : Nat → Value) : List Edge → Act → Act
  | [], a => a
  | e :: r, a => putDeps ops u r (if Region.binds .any e = true then a.put (dstOf ops e.on) (u e.on) else a)
def Deps (S : List Sp) (u : Nat → Value) (w : World) : List Edge → Prop
  | [] => True
  | e :: r => (Region.binds .any e = true → (S.getD e.on Sp.any).holds (u e.on) w) ∧ Deps S u w r
def RelEnd (ds : List Deferred) (d : Option Tmp) (s : Sp) (w1 : World) (e : Exit) (a' : Act) (w' : World) : Prop :=
  e = .normal ∧ a'.defers = ds ∧ Below w1.heap.size w1 w' ∧ ∀ t, d = some t → s.holds (a'.tmps.getD t undef) w'
theorem RelEnd.mk {ds : List Deferred} {d : Tmp} {s : Sp} {w1 : World} {a' : Act} {w' : World} (h1 : a'.defers = ds) (h2 : Below w1.heap.size w1 w') (h3 : s.holds (a'.tmps.getD d undef) w') : RelEnd ds (some d) s w1 .normal a' w' :=
  ⟨rfl, h1, h2, fun t e => by injection e with e; subst e; exact h3⟩
def RelGoals (P : Program) (ops : Array Oper) (S : List Sp) (a : Act) (w : World) : List Oper → Nat → Prop
  | [], _ => True
  | o :: r, i => (∀ (u : Nat → Value) (w1 : World), Below w.heap.size w w1 → Deps S u w1 o.after.toList → wpList P ops (RelEnd a.defers o.dst (S.getD i Sp.any) w1) [o] (putDeps ops u o.after.toList a) w1) ∧ RelGoals P ops S a w r (i + 1)
def RelHold (u : Nat → Value) (w : World) : List Sp → Nat → Prop
  | [], _ => True
  | s :: r, i => s.holds (u i) w ∧ RelHold u w r (i + 1)
def relB (ops : Array Oper) (N : Nat) : Bool :=
  (List.range ops.size).all fun i => match ops[i]? with
    | none => false
    | some o =>
      (match o.dst with
        | none => false
        | some d => decide (d < N) && (List.range ops.size).all (fun j => j == i || dstOf ops j != some d)) &&
      (match o.op with
        | .select .. => false
        | _ => true) &&
      o.after.all (fun e => !Region.binds .any e || decide (e.on < i)) &&
      (o.looksAt ops).all (fun t => (List.range ops.size).all fun j => dstOf ops j != some t || o.after.any (fun e => Region.binds .any e && e.on == j) ||
        (match ops[j]? with
          | none => false
          | some oj => oj.after.any (fun e => Region.binds .any e && e.on == i)))
section
variable {ops : Array Oper} {N : Nat}
theorem relB_spec (h : relB ops N = true) {i : Nat} {o : Oper} (ho : ops[i]? = some o) :
    (∃ d, o.dst = some d ∧ d < N ∧ ∀ j, dstOf ops j = some d → j = i) ∧ (∀ cs b, o.op ≠ .select cs b) ∧ (∀ e ∈ o.after, Region.binds .any e = true → e.on < i) ∧
    (∀ t ∈ o.looksAt ops, ∀ j, dstOf ops j = some t → (∃ e ∈ o.after, Region.binds .any e = true ∧ e.on = j) ∨ (∃ oj, ops[j]? = some oj ∧ ∃ e ∈ oj.after, Region.binds .any e = true ∧ e.on = i)) := by
  have hi : i < ops.size := (Array.getElem?_eq_some_iff.1 ho).1
  have hlt : ∀ j t, dstOf ops j = some t → j < ops.size := fun j t hj => by
    rcases Nat.lt_or_ge j ops.size with h | h
    · exact h
    · simp [dstOf, Array.getElem?_eq_none h] at hj
  unfold relB at h
  rw [List.all_eq_true] at h
  have h1 := h i (List.mem_range.2 hi)
  rw [ho] at h1
  simp only [Bool.and_eq_true] at h1
  obtain ⟨⟨⟨h2, h3⟩, h4⟩, h5⟩ := h1
  refine ⟨?_, ?_, ?_, ?_⟩
  · cases hd : o.dst with
    | none => rw [hd] at h2; cases h2
    | some d =>
      rw [hd] at h2
      simp only [Bool.and_eq_true, decide_eq_true_eq] at h2
      refine ⟨d, rfl, h2.1, fun j hj => ?_⟩
      have := List.all_eq_true.1 h2.2 j (List.mem_range.2 (hlt j d hj))
      simp only [Bool.or_eq_true, beq_iff_eq, bne_iff_ne] at this
      exact this.resolve_right (fun hn => hn hj)
  · intro cs b hs
    rw [hs] at h3
    cases h3
  · intro e he hb
    have := Array.all_eq_true_iff_forall_mem.1 h4 e he
    simpa [hb] using this
  · intro t ht j hj
    have := List.all_eq_true.1 (List.all_eq_true.1 h5 t ht) j (List.mem_range.2 (hlt j t hj))
    simp only [Bool.or_eq_true, bne_iff_ne] at this
    rcases this with (h6 | h6) | h6
    · exact absurd hj h6
    · left
      rw [Array.any_eq_true'] at h6
      obtain ⟨e, he, h7⟩ := h6
      simp only [Bool.and_eq_true, beq_iff_eq] at h7
      exact ⟨e, he, h7.1, h7.2⟩
    · right
      cases hoj : ops[j]? with
      | none => rw [hoj] at h6; cases h6
      | some oj =>
        rw [hoj] at h6
        simp only at h6
        rw [Array.any_eq_true'] at h6
        obtain ⟨e, he, h7⟩ := h6
        simp only [Bool.and_eq_true, beq_iff_eq] at h7
        exact ⟨oj, rfl, e, he, h7.1, h7.2⟩
theorem put_size (a : Act) (d : Option Tmp) (v : Value) : (a.put d v).tmps.size = a.tmps.size := by cases d <;> simp [Act.put]
theorem put_defers (a : Act) (d : Option Tmp) (v : Value) : (a.put d v).defers = a.defers := by cases d <;> rfl
theorem put_get_ne (a : Act) {d : Option Tmp} (v : Value) {t : Tmp} (h : d ≠ some t) : (a.put d v).tmps[t]? = a.tmps[t]? := by
  cases d with
  | none => rfl
  | some d => simp only [Act.put]; rw [Array.getElem?_setIfInBounds_ne (fun e => h (by rw [e]))]
theorem put_get_eq (a : Act) (v : Value) {t : Tmp} (h : t < a.tmps.size) : (a.put (some t) v).tmps[t]? = some v := by
  simp only [Act.put]
  rw [Array.getElem?_setIfInBounds]
  simp [h]
theorem putDeps_size (u : Nat → Value) : ∀ (es : List Edge) (a : Act), (putDeps ops u es a).tmps.size = a.tmps.size ∧ (putDeps ops u es a).defers = a.defers
  | [], a => ⟨rfl, rfl⟩
  | e :: r, a => by
    unfold putDeps
    have := putDeps_size u r (if Region.binds .any e = true then a.put (dstOf ops e.on) (u e.on) else a)
    split at this
    · rename_i hb
      rw [if_pos hb]
      exact ⟨this.1.trans (put_size _ _ _), this.2.trans (put_defers _ _ _)⟩
    · rename_i hb
      rw [if_neg hb]
      exact this
theorem putDeps_miss (u : Nat → Value) {t : Tmp} : ∀ (es : List Edge) (a : Act), (∀ e ∈ es, Region.binds .any e = true → dstOf ops e.on ≠ some t) → (putDeps ops u es a).tmps[t]? = a.tmps[t]?
  | [], a, _ => rfl
  | e :: r, a, h => by
    unfold putDeps
    rw [putDeps_miss u r _ (fun e' he' => h e' (List.mem_cons_of_mem _ he'))]
    split
    · rename_i hb
      exact put_get_ne _ _ (h e (List.mem_cons_self ..) hb)
    · rfl
theorem putDeps_hit (u : Nat → Value) {t : Tmp} {j : Nat} (hj : ∀ i, dstOf ops i = some t → i = j) : ∀ (es : List Edge) (a : Act), t < a.tmps.size → (∃ e ∈ es, Region.binds .any e = true ∧ dstOf ops e.on = some t) → (putDeps ops u es a).tmps[t]? = some (u j)
  | [], a, _, ⟨_, he, _⟩ => by cases he
  | e :: r, a, ht, ⟨e', he', hb', hd'⟩ => by
    unfold putDeps
    by_cases hex : ∃ e ∈ r, Region.binds .any e = true ∧ dstOf ops e.on = some t
    · refine putDeps_hit u hj r _ ?_ hex
      split
      · rw [put_size]; exact ht
      · exact ht
    · rw [putDeps_miss u r _ (fun x hx hb hd => hex ⟨x, hx, hb, hd⟩)]
      rcases List.mem_cons.1 he' with rfl | he'
      · rw [if_pos hb', hd', hj _ hd']
        exact put_get_eq _ _ ht
      · exact absurd ⟨e', he', hb', hd'⟩ hex
theorem putAll_size (u : Nat → Value) : ∀ (l : List Oper) (i : Nat) (a : Act), (putAll u l i a).tmps.size = a.tmps.size ∧ (putAll u l i a).defers = a.defers
  | [], _, a => ⟨rfl, rfl⟩
  | o :: r, i, a => by
    unfold putAll
    have := putAll_size u r (i + 1) (a.put o.dst (u i))
    exact ⟨this.1.trans (put_size _ _ _), this.2.trans (put_defers _ _ _)⟩
theorem putAll_miss (u : Nat → Value) {t : Tmp} : ∀ (l : List Oper) (i : Nat) (a : Act), (∀ o ∈ l, o.dst ≠ some t) → (putAll u l i a).tmps[t]? = a.tmps[t]?
  | [], _, a, _ => rfl
  | o :: r, i, a, h => by
    unfold putAll
    rw [putAll_miss u r (i + 1) _ (fun x hx => h x (List.mem_cons_of_mem _ hx))]
    exact put_get_ne _ _ (h o (List.mem_cons_self ..))
theorem putAll_hit (u : Nat → Value) {t : Tmp} : ∀ (l : List Oper) (i : Nat) (a : Act) (j : Nat) (o : Oper), t < a.tmps.size → l[j]? = some o → o.dst = some t → (∀ k x, l[k]? = some x → x.dst = some t → k = j) → (putAll u l i a).tmps[t]? = some (u (i + j))
  | [], _, _, _, _, _, h, _, _ => by simp at h
  | x :: r, i, a, 0, o, ht, h, hd, hu => by
    unfold putAll
    simp only [List.getElem?_cons_zero, Option.some.injEq] at h
    subst h
    rw [putAll_miss u r (i + 1) _ (fun y hy hyd => by
      obtain ⟨k, hk, rfl⟩ := List.getElem_of_mem hy
      have := hu (k + 1) r[k] (by simp [hk]) hyd
      omega), hd]
    exact put_get_eq _ _ ht
  | x :: r, i, a, j + 1, o, ht, h, hd, hu => by
    unfold putAll
    rw [putAll_hit u r (i + 1) _ j o (by rw [put_size]; exact ht) (by simpa using h) hd (fun k y hk hy => by have := hu (k + 1) y (by simpa using hk) hy; omega)]
    congr 2
    omega
end
section
variable {P : Program} {S : List Sp} {a : Act} {w : World} {l : List Oper}
theorem RelGoals.at {ops : Array Oper} : ∀ (l : List Oper) (i : Nat), RelGoals P ops S a w l i → ∀ (j : Nat) (o : Oper), l[j]? = some o → ∀ (u : Nat → Value) (w1 : World), Below w.heap.size w w1 → Deps S u w1 o.after.toList →
    wpList P ops (RelEnd a.defers o.dst (S.getD (i + j) Sp.any) w1) [o] (putDeps ops u o.after.toList a) w1
  | [], _, _, _, _, h => by simp at h
  | x :: r, i, hg, 0, o, h => by
    simp only [List.getElem?_cons_zero, Option.some.injEq] at h
    subst h
    exact hg.1
  | x :: r, i, hg, j + 1, o, h => by
    have := RelGoals.at r (i + 1) hg.2 j o (by simpa using h)
    rw [show i + 1 + j = i + (j + 1) by omega] at this
    exact this
theorem Deps.of {u : Nat → Value} {w1 : World} : ∀ es : List Edge, (∀ e ∈ es, Region.binds .any e = true → (S.getD e.on Sp.any).holds (u e.on) w1) → Deps S u w1 es
  | [], _ => trivial
  | e :: r, h => ⟨h e (List.mem_cons_self ..), Deps.of r (fun x hx => h x (List.mem_cons_of_mem _ hx))⟩
theorem RelHold.of {u : Nat → Value} {w1 : World} : ∀ (S : List Sp) (i : Nat), (∀ (j : Nat) (s : Sp), S[j]? = some s → s.holds (u (i + j)) w1) → RelHold u w1 S i
  | [], _, _ => trivial
  | s :: r, i, h => ⟨by simpa using h 0 s (by simp), RelHold.of r (i + 1) (fun j x hx => by have := h (j + 1) x (by simpa using hx); rwa [show i + (j + 1) = i + 1 + j by omega] at this)⟩
def RelInv (l : List Oper) (S : List Sp) (a : Act) (w : World) (listed : Array Bool) (a' : Act) (w' : World) : Prop :=
  Below w.heap.size w w' ∧ a'.defers = a.defers ∧ a'.tmps.size = a.tmps.size ∧
  (∀ j o, l[j]? = some o → listed.getD j false = true → ∀ e ∈ o.after, Region.binds .any e = true → listed.getD e.on false = true) ∧
  (∀ t, (∀ j o, l[j]? = some o → o.dst = some t → listed.getD j false = false) → a'.tmps[t]? = a.tmps[t]?) ∧
  ∃ u : Nat → Value, ∀ j o t, l[j]? = some o → o.dst = some t → listed.getD j false = true → a'.tmps[t]? = some (u j) ∧ (S.getD j Sp.any).holds (u j) w'
/-- The goals from operation s on. -/
def Hop (P : Program) (l : List Oper) (S : List Sp) (a : Act) (w : World) (s : Nat) : Prop :=
  ∀ (i : Nat) (o : Oper), l[i]? = some o → s ≤ i → ∀ (u : Nat → Value) (w1 : World), Below w.heap.size w w1 → Deps S u w1 o.after.toList →
    wpList P l.toArray (RelEnd a.defers o.dst (S.getD i Sp.any) w1) [o] (putDeps l.toArray u o.after.toList a) w1
theorem Hop.of {s : Nat} (h : RelGoals P l.toArray S a w (l.drop s) s) : Hop P l S a w s := fun i o ho hi u w1 hb hd => by
  have := RelGoals.at (l.drop s) s h (i - s) o (by rw [List.getElem?_drop, show s + (i - s) = i by omega]; exact ho) u w1 hb hd
  rw [show s + (i - s) = i by omega] at this
  exact this
theorem getD_set_false {listed : Array Bool} {i j : Nat} (h : i ≠ j) : (listed.setIfInBounds i true).getD j false = listed.getD j false := getD_set_ne false h
theorem eval_agree {b b' : Act} {ops : Array Oper} {o : Oper} (h : ∀ t ∈ o.looksAt ops, b.tmps[t]? = b'.tmps[t]?) : ∀ x ∈ o.op.operands, b.eval x = b'.eval x := by
  intro x hx
  cases x with
  | tmp t =>
    have ht : t ∈ o.looksAt ops := List.mem_append_left _ (List.mem_filterMap.2 ⟨.tmp t, by simpa using hx, rfl⟩)
    show b.tmps.getD t undef = b'.tmps.getD t undef
    rw [Array.getD_eq_getD_getElem?, Array.getD_eq_getD_getElem?, h t ht]
  | _ => rfl
theorem wanted_agree {b b' : Act} {ops : Array Oper} {o : Oper} (h : ∀ t ∈ o.looksAt ops, b.tmps[t]? = b'.tmps[t]?) : Region.wanted o (yielded ops b.tmps) = Region.wanted o (yielded ops b'.tmps) := by
  unfold Region.wanted
  cases hg : o.guard with
  | none => rfl
  | some gw =>
    obtain ⟨g, want⟩ := gw
    have hy : yielded ops b.tmps g = yielded ops b'.tmps g := by
      unfold yielded
      cases ht : (ops[g]?).bind (·.dst) with
      | none => rfl
      | some t =>
        have := h t (by simp [Oper.looksAt, hg, ht])
        simp only [Option.bind_some, this]
    simp only [hy]
theorem rel_step {Q : Exit → Act → World → Prop} {N : Nat} (hB : relB l.toArray N = true) (ha : a.tmps.size = N) {s : Nat} (hop : Hop P l S a w s) {listed : Array Bool} (hs : ∀ j, j < s → listed.getD j false = true) (hsz : listed.size = l.length) {a' : Act} {w' : World} (inv : RelInv l S a w listed a' w') {i : Nat} (hr : i ∈ Region.ready .any l.toArray listed) :
    wpOp P l.toArray Q i (RelInv l S a w (listed.setIfInBounds i true)) a' w' := by
  obtain ⟨hun, o, ho, hall⟩ := mem_ready.1 hr
  have hol : l[i]? = some o := by simpa using ho
  obtain ⟨⟨d, hd, hdN, huniq⟩, hsel, _, hlook⟩ := relB_spec hB ho
  obtain ⟨hbel, hdef, hsize, hclosed, hold, u, hu⟩ := inv
  have hil : i < l.length := by
    rcases Nat.lt_or_ge i l.length with h | h
    · exact h
    · simp [List.getElem?_eq_none h] at hol
  have hunf : listed.getD i false = false := by
    have : i < listed.size := by omega
    simpa [this] using hun
  have dst_at : ∀ j t, dstOf l.toArray j = some t → ∃ oj, l[j]? = some oj ∧ oj.dst = some t := fun j t h => by
    unfold dstOf at h
    rw [List.getElem?_toArray] at h
    cases hj : l[j]? with
    | none => rw [hj] at h; cases h
    | some oj => rw [hj] at h; exact ⟨oj, rfl, h⟩
  have dst_of : ∀ j oj t, l[j]? = some oj → oj.dst = some t → dstOf l.toArray j = some t := fun j oj t h h' => by
    unfold dstOf
    rw [List.getElem?_toArray, h]; exact h'
  have hdeps : Deps S u w' o.after.toList := Deps.of _ (fun e he hb => by
    have he' : e ∈ o.after := by simpa using he
    have hl := hall e he' hb
    have hlt : e.on < l.length := by
      have := (relB_spec hB ho).2.2.1 e he' hb
      omega
    obtain ⟨⟨t, ht, _⟩, _⟩ := relB_spec hB (i := e.on) (o := l[e.on]) (by simp [hlt])
    exact (hu e.on l[e.on] t (by simp [hlt]) ht hl).2)
  have hsi : s ≤ i := by
    rcases Nat.lt_or_ge i s with h | h
    · rw [hs i h] at hunf; cases hunf
    · exact h
  have hgoal := hop i o hol hsi u w' hbel hdeps
  have hF := putDeps_size (ops := l.toArray) u o.after.toList a
  generalize hFe : putDeps l.toArray u o.after.toList a = F at hgoal hF
  have agree : ∀ t ∈ o.looksAt l.toArray, F.tmps[t]? = a'.tmps[t]? := by
    intro t ht
    by_cases hex : ∃ e ∈ o.after.toList, Region.binds .any e = true ∧ dstOf l.toArray e.on = some t
    · obtain ⟨e, he, hb, hde⟩ := hex
      obtain ⟨oj, hj, hdj⟩ := dst_at _ _ hde
      have hw := (hu e.on oj t hj hdj (hall e (by simpa using he) hb)).1
      obtain ⟨⟨d', hd', hdN', huniq'⟩, _⟩ := relB_spec hB (i := e.on) (o := oj) (by simpa using hj)
      have : d' = t := by rw [hd'] at hdj; injection hdj
      subst this
      rw [hw, ← hFe]
      exact putDeps_hit u huniq' _ _ (by rw [ha]; exact hdN') ⟨e, he, hb, hde⟩
    · rw [← hFe, putDeps_miss u _ _ (fun e he hb hde => hex ⟨e, he, hb, hde⟩)]
      symm
      refine hold t (fun j oj hj hdj => ?_)
      cases hlj : listed.getD j false
      · rfl
      · rcases hlook t ht j (dst_of j oj t hj hdj) with ⟨e, he, hb, hej⟩ | ⟨oj', hoj', e, he, hb, hei⟩
        · exact absurd ⟨e, by simpa using he, hb, by rw [hej]; exact dst_of j oj t hj hdj⟩ hex
        · have : oj' = oj := by
            rw [List.getElem?_toArray, hj] at hoj'
            injection hoj' with hoj'
            exact hoj'.symm
          subst this
          have := hclosed j oj' hj hlj e he hb
          rw [hei, hunf] at this
          cases this
  have heval : execOp F.eval o = execOp a'.eval o := execOp_congr o hsel (eval_agree agree)
  have hwant := wanted_agree agree
  have fin : ∀ v w'', RelEnd a.defers o.dst (S.getD i Sp.any) w' .normal (F.put o.dst v) w'' → RelInv l S a w (listed.setIfInBounds i true) (a'.put o.dst v) w'' := by
    rintro v w'' ⟨_, _, hb2, hs⟩
    have hs' := hs d hd
    rw [hd] at hs'
    have hg : (F.put (some d) v).tmps.getD d undef = v := by
      have := put_get_eq F v (t := d) (by rw [hF.1, ha]; exact hdN)
      rw [Array.getD_eq_getD_getElem?, this]; rfl
    rw [hg] at hs'
    refine ⟨hbel.trans (hb2.mono hbel.size), by rw [put_defers, hdef], by rw [put_size, hsize], ?_, ?_, fun j => if j = i then v else u j, ?_⟩
    · intro j oj hj hlj e he hb
      by_cases hji : i = j
      · subst hji
        rw [hol] at hj
        injection hj with hj
        subst hj
        exact getD_set_true (hall e he hb)
      · rw [getD_set_false hji] at hlj
        exact getD_set_true (hclosed j oj hj hlj e he hb)
    · intro t ht
      have hne : o.dst ≠ some t := fun he => by
        have := ht i o hol he
        rw [show (listed.setIfInBounds i true).getD i false = true by simp [hsz, hil]] at this
        cases this
      rw [put_get_ne _ _ hne]
      refine hold t (fun j oj hj hdj => ?_)
      have hji : i ≠ j := fun e => by
        subst e
        rw [hol] at hj
        injection hj with hj
        subst hj
        exact hne hdj
      have := ht j oj hj hdj
      rwa [getD_set_false hji] at this
    · intro j oj t hj hdj hlj
      by_cases hji : j = i
      · subst hji
        rw [hol] at hj
        injection hj with hj
        subst hj
        rw [hd] at hdj
        injection hdj with hdj
        subst hdj
        simp only [if_true]
        rw [hd]
        exact ⟨put_get_eq _ _ (by rw [hsize, ha]; exact hdN), hs'⟩
      · rw [getD_set_false (Ne.symm hji)] at hlj
        simp only [if_neg hji]
        have hne : o.dst ≠ some t := fun he => by
          rw [hd] at he
          injection he with he
          subst he
          exact hji (huniq j (dst_of j oj d hj hdj))
        obtain ⟨h1, h2⟩ := hu j oj t hj hdj hlj
        exact ⟨(put_get_ne _ _ hne).trans h1, (S.getD j Sp.any).stays _ _ _ h2 hb2⟩
  have nolets : ¬ LetsOut (RelEnd a.defers o.dst (S.getD i Sp.any) w') := by
    rintro ⟨_, _, h, _⟩
    cases h
  unfold wpOp
  simp only [ho]
  simp only [wpList, hwant] at hgoal
  by_cases hw : Region.wanted o (yielded l.toArray a'.tmps) = true
  · rw [if_pos hw] at hgoal ⊢
    rcases hgoal with h | ⟨_, h⟩
    · left
      unfold Oper.wp at h ⊢
      rw [heval] at h
      generalize (execOp a'.eval o).run P w' = r at h ⊢
      cases r with
      | ok n w'' =>
        cases n <;> simp only [Oper.upon] at h ⊢
        case value u => exact fin _ _ h
        case skip => exact fin _ _ h
        case defer x =>
          exfalso
          obtain ⟨_, h2, _⟩ := h
          rw [put_defers] at h2
          have := congrArg List.length h2
          simp only [List.length_cons, hF.2] at this
          omega
        case enter f args =>
          refine Calls.mono h fun e w'' he => ?_
          cases e with
          | returned u => exact fin _ _ he
          | panicked c => cases he.1
          | outgrown => exact absurd he nolets
        case row row args => exact Rows.mono h fun u w'' he => fin _ _ he
      | halt x w'' =>
        cases x <;> simp only [Oper.upon] at h ⊢
        case panic u => cases h.1
    · exact absurd h nolets
  · rw [if_neg hw] at hgoal ⊢
    exact fin _ _ hgoal
theorem rel_any {Q : Exit → Act → World → Prop} {N : Nat} (hB : relB l.toArray N = true) (ha : a.tmps.size = N) (hS : S.length = l.length) {s : Nat} (hop : Hop P l S a w s)
    (hend : ∀ u w1, Below w.heap.size w w1 → RelHold u w1 S 0 → Q .normal (putAll u l 0 a) w1) :
    ∀ (f : Nat) (listed : Array Bool) (a' : Act) (w' : World), (∀ j, j < s → listed.getD j false = true) → listed.size = l.length → listed.toList.count false = f → RelInv l S a w listed a' w' → wpAny P .any l.toArray Q f listed a' w'
  | 0, listed, a', w', hs, hsz, hc, inv => by
    have hall : ∀ j, j < l.length → listed.getD j false = true := fun j hj => by
      have h1 : false ∉ listed.toList := List.count_eq_zero.1 hc
      have hlt : j < listed.size := by omega
      cases hb : listed[j]
      · exact absurd (by rw [← hb]; simp) h1
      · simp [hlt, hb]
    have hready : Region.ready .any l.toArray listed = [] := by
      rw [List.eq_nil_iff_forall_not_mem]
      intro j hj
      obtain ⟨h0, o, ho, _⟩ := mem_ready.1 hj
      have hj' : j < l.length := by
        rcases Nat.lt_or_ge j l.length with h | h
        · exact h
        · simp [List.getElem?_eq_none h] at ho
      have := hall j hj'
      have hlt : j < listed.size := by omega
      simp [hlt] at this h0
      rw [this] at h0
      cases h0
    refine ⟨hready, ?_⟩
    obtain ⟨hbel, hdef, hsize, _, hold, u, hu⟩ := inv
    have e : a' = putAll u l 0 a := by
      have h1 := putAll_size u l 0 a
      obtain ⟨tm, df⟩ := a'
      generalize hFe : putAll u l 0 a = F at h1
      obtain ⟨tm2, df2⟩ := F
      simp only at hdef hsize h1
      have : tm = tm2 := by
        apply Array.ext_getElem?
        intro t
        have hF2 : tm2[t]? = (putAll u l 0 a).tmps[t]? := by rw [hFe]
        rw [hF2]
        by_cases hex : ∃ (j : Nat) (o : Oper), l[j]? = some o ∧ o.dst = some t
        · obtain ⟨j, o, hj, hd⟩ := hex
          obtain ⟨⟨d, hd', hdN, huniq⟩, _⟩ := relB_spec hB (i := j) (o := o) (by simpa using hj)
          have hdt : d = t := by rw [hd'] at hd; injection hd
          subst hdt
          have hj' : j < l.length := by
            rcases Nat.lt_or_ge j l.length with h | h
            · exact h
            · simp [List.getElem?_eq_none h] at hj
          have h2 := putAll_hit u l 0 a j o (t := d) (by rw [ha]; exact hdN) hj hd (fun k x hk hx => huniq k (by unfold dstOf; rw [List.getElem?_toArray, hk]; exact hx))
          rw [Nat.zero_add] at h2
          rw [h2]
          exact (hu j o d hj hd (hall j hj')).1
        · rw [putAll_miss u l 0 a (fun (o : Oper) ho hd => by
            obtain ⟨j, hj, rfl⟩ := List.getElem_of_mem ho
            exact hex ⟨j, l[j], by simp [hj], hd⟩)]
          exact hold t (fun j o hj hd => absurd ⟨j, o, hj, hd⟩ hex)
      rw [this, hdef, h1.2]
    rw [e]
    refine hend u w' hbel (RelHold.of S 0 (fun j s hj => ?_))
    have hj' : j < S.length := by
      rcases Nat.lt_or_ge j S.length with h | h
      · exact h
      · simp [List.getElem?_eq_none h] at hj
    have hjl : j < l.length := by omega
    obtain ⟨⟨d, hd', _⟩, _⟩ := relB_spec hB (i := j) (o := l[j]) (by simp [hjl])
    have := (hu j l[j] d (by simp [hjl]) hd' (hall j hjl)).2
    rw [Nat.zero_add]
    rw [List.getD_eq_getElem?_getD, hj] at this
    exact this
  | f + 1, listed, a', w', hs, hsz, hc, inv => by
    refine ⟨fun h0 => ?_, fun i hi => ?_⟩
    · exfalso
      have hall : ∀ j, j < l.length → listed.getD j false = true := by
        intro j
        induction j using Nat.strongRecOn with
        | ind j ih =>
          intro hj
          cases hlj : listed.getD j false
          · exfalso
            have hlt : j < listed.size := by omega
            have : j ∈ Region.ready .any l.toArray listed := mem_ready.2 ⟨by simpa [hlt] using hlj, l[j], by simp [hj], fun e he hb => by
              have := (relB_spec hB (i := j) (o := l[j]) (by simp [hj])).2.2.1 e he hb
              exact ih e.on this (by omega)⟩
            rw [h0] at this
            cases this
          · rfl
      have : listed.toList.count false = 0 := List.count_eq_zero.2 (fun hm => by
        obtain ⟨j, hj, he⟩ := List.getElem_of_mem hm
        have hj' : j < listed.size := by simpa using hj
        have := hall j (by omega)
        simp [hj'] at this
        simp [this] at he)
      omega
    · refine wpOp_mono (fun a'' w'' h => ?_) (rel_step hB ha hop hs hsz inv hi)
      refine rel_any hB ha hS hop hend f _ a'' w'' (fun j hj => getD_set_true (hs j hj)) (by simpa using hsz) ?_ h
      obtain ⟨hun, o, ho, _⟩ := mem_ready.1 hi
      have hil : i < listed.size := by
        have : i < l.length := by
          rcases Nat.lt_or_ge i l.length with h | h
          · exact h
          · simp [List.getElem?_eq_none h] at ho
        omega
      have hun' : listed[i] = false := by simpa [hil] using hun
      rw [Array.toList_setIfInBounds, List.count_set (by simpa using hil)]
      simp [hun', hc]
end
/-- Each operation by itself; no order is looked at. -/
theorem wp_region_rel {P : Program} {id : Nat} {Q : Exit → Act → World → Prop} {a : Act} {w : World} {l : List Oper} (S : List Sp) (N : Nat) (hm : P.follows .mixedOrders = true) (hB : relB l.toArray N = true) (ha : a.tmps.size = N) (hS : S.length = l.length)
    (hop : RelGoals P l.toArray S a w l 0) (hend : ∀ u w1, Below w.heap.size w w1 → RelHold u w1 S 0 → Q .normal (putAll u l 0 a) w1) : (Code.region id l.toArray true).wp P Q a w := by
  refine wp_region_any hm ?_
  have := rel_any (Q := Q) hB ha hS (Hop.of (s := 0) hop) hend l.length (Array.replicate l.length false) a { w with drawn := w.drawn + 1 } (fun j hj => by omega) (by simp) (by simp)
    ⟨(Below.refl _ _).drew, rfl, rfl, fun j o _ hl => (by rw [getD_replicate_false] at hl; cases hl), fun _ _ => rfl, fun _ => undef, fun j o t _ _ hl => (by rw [getD_replicate_false] at hl; cases hl)⟩
  simpa using this
end Go.Proofs.Ytbidnflcbgnckaa
namespace Go.Proofs.Ytbidnflcbgnckaa
open Go.RowKit

/-- A slice of a call's own, as a property. -/
def Sp.own {α : Type} (B : Nat) (e : TypeId) (k : Nat) (cs : α → List Value) (l : List α) : Sp := ⟨fun v w => w.ownsRow B e k v l.length (l.flatMap cs), fun _ _ _ h hb => own_below h hb⟩
theorem Sp.own_holds {α : Type} (B : Nat) (e : TypeId) (k : Nat) (cs : α → List Value) (l : List α) (v : Value) (w : World) : (Sp.own B e k cs l).holds v w = w.ownsRow B e k v l.length (l.flatMap cs) := rfl
end Go.Proofs.Ytbidnflcbgnckaa
namespace Go.Proofs.Ytbidnflcbgnckaa
open Go.RowKit

/-- How far a text in quotes has been read. -/
def UnqAt (s acc r : List UInt8) : Prop := unq s = (unq r).map (acc ++ ·) ∧ acc.length + r.length ≤ s.length
theorem UnqAt.start (s : List UInt8) : UnqAt s [] s := ⟨by simp, by simp⟩
theorem UnqAt.done {s acc : List UInt8} (h : UnqAt s acc []) : unq s = some acc := by rw [h.1, unq]; simp
theorem u8_eq {c d : UInt8} (h : c.toNat = d.toNat) : c = d := UInt8.toNat_inj.1 h
theorem uq_bad {c : UInt8} {r : List UInt8} (h : c.toNat < 32 ∨ 126 < c.toNat ∨ c.toNat = 34) : unq (c :: r) = none := by
  have h' : c.toNat < 32 ∨ 126 < c.toNat ∨ c = 34 := h.imp id (fun h => h.imp id (fun h => u8_eq h))
  cases r with
  | nil => rw [unq_one, if_pos (h'.elim .inl (fun h => .inr (h.elim .inl (fun h => .inr (.inl h)))))]
  | cons d s => rw [unq_two, if_pos h']
theorem uq_plain {c : UInt8} {r : List UInt8} (h1 : ¬ c.toNat < 32) (h2 : ¬ 126 < c.toNat) (h3 : c.toNat ≠ 34) (h4 : c.toNat ≠ 92) : unq (c :: r) = (unq r).map (c :: ·) :=
  unq_cons (fun h => h.elim h1 (fun h => h.elim h2 (fun e => h3 (by rw [e]; rfl)))) (fun e => h4 (by rw [e]; rfl)) r
theorem uq_esc {c d : UInt8} {s : List UInt8} (hc : c.toNat = 92) (h : d.toNat = 34 ∨ d.toNat = 92) : unq (c :: d :: s) = (unq s).map (d :: ·) := by
  rw [show c = 92 from u8_eq hc]
  exact unq_esc (h.imp (fun h => u8_eq h) (fun h => u8_eq h)) s
theorem uq_one {c : UInt8} (hc : c.toNat = 92) : unq [c] = none := by rw [show c = 92 from u8_eq hc]; decide
theorem uq_two {c d : UInt8} {s : List UInt8} (hc : c.toNat = 92) (h1 : d.toNat ≠ 34) (h2 : d.toNat ≠ 92) : unq (c :: d :: s) = match s with
    | a :: b :: r => if d ≠ 120 ∨ 15 < hexV a ∨ 15 < hexV b ∨ (32 ≤ 16 * hexV a + hexV b ∧ 16 * hexV a + hexV b ≤ 126) then none else (unq r).map (UInt8.ofNat (16 * hexV a + hexV b) :: ·)
    | _ => none := by
  have n34 : d ≠ 34 := fun e => h1 (by rw [e]; rfl)
  have n92 : d ≠ 92 := fun e => h2 (by rw [e]; rfl)
  rw [show c = 92 from u8_eq hc, unq_two, if_neg (by decide), if_neg (by simp), if_neg (fun h => h.elim n34 n92)]
  cases s with
  | nil => rfl
  | cons a s => cases s <;> rfl
theorem uq_hexbad {c d a b : UInt8} {s : List UInt8} (hc : c.toNat = 92) (h1 : d.toNat ≠ 34) (h2 : d.toNat ≠ 92) (h : d.toNat ≠ 120 ∨ 15 < hexV a ∨ 15 < hexV b ∨ (32 ≤ 16 * hexV a + hexV b ∧ 16 * hexV a + hexV b ≤ 126)) : unq (c :: d :: a :: b :: s) = none := by
  rw [uq_two hc h1 h2]
  simp only
  rw [if_pos (h.imp (fun h e => h (by rw [e]; rfl)) id)]
theorem uq_hexok {c d a b : UInt8} {s : List UInt8} (hc : c.toNat = 92) (h1 : d.toNat = 120) (h : ¬ (15 < hexV a ∨ 15 < hexV b ∨ (32 ≤ 16 * hexV a + hexV b ∧ 16 * hexV a + hexV b ≤ 126))) : unq (c :: d :: a :: b :: s) = (unq s).map (UInt8.ofNat (16 * hexV a + hexV b) :: ·) := by
  rw [uq_two hc (by omega) (by omega)]
  simp only
  rw [if_neg (fun h' => h'.elim (fun h' => h' (u8_eq h1)) h)]
theorem uq_short {c d : UInt8} {s : List UInt8} (hc : c.toNat = 92) (h1 : d.toNat ≠ 34) (h2 : d.toNat ≠ 92) (hs : s.length < 2) : unq (c :: d :: s) = none := by
  rw [uq_two hc h1 h2]
  match s, hs with
  | [], _ => rfl
  | [a], _ => rfl
theorem UnqAt.step {s acc r r2 : List UInt8} {c : UInt8} (h : UnqAt s acc r) (e : unq r = (unq r2).map (c :: ·)) (hl : r2.length < r.length) : UnqAt s (acc ++ [c]) r2 := by
  refine ⟨?_, by have := h.2; simp; omega⟩
  rw [h.1, e, Option.map_map]
  congr 1
  funext x
  simp
theorem UnqAt.bad {s acc r : List UInt8} (h : UnqAt s acc r) (e : unq r = none) : unq s = none := by rw [h.1, e]; rfl
theorem or_hex {x y : Nat} (hx : x ≤ 15) (hy : y ≤ 15) : bits BinOp.or IntKind.u8 (16 * (x : Int)) (y : Int) = ((16 * x + y : Nat) : Int) := by
  have : ∀ a : Fin 16, ∀ b : Fin 16, bits BinOp.or IntKind.u8 (16 * (a.val : Int)) (b.val : Int) = ((16 * a.val + b.val : Nat) : Int) := by decide +kernel
  exact this ⟨x, by omega⟩ ⟨y, by omega⟩
theorem hexV_le (c : UInt8) : hexV c ≤ 16 := by unfold hexV; split; omega; split <;> omega
def unqT (t : List UInt8) : Value := .tuple #[.string (str ((unquote t).getD [])), .bool (unquote t).isSome]
theorem unqT_none {t : List UInt8} (h : unquote t = none) : unqT t = .tuple #[.string (str []), .bool false] := by unfold unqT; rw [h]; rfl
theorem unqT_some {t u : List UInt8} (h : unquote t = some u) : unqT t = .tuple #[.string (str u), .bool true] := by unfold unqT; rw [h]; rfl
theorem unquote_in {t : List UInt8} {n : Nat} (hn : t.length = n + 1) (h1 : 1 ≤ n) (h0 : (t[0]'(by omega)).toNat = 34) (hl : (t[n]'(by omega)).toNat = 34) : unquote t = unq ((t.drop 1).take (n - 1)) := by
  unfold unquote
  have e0 : t.head? = some 34 := by
    rw [List.head?_eq_getElem?, List.getElem?_eq_getElem (by omega)]
    congr 1; exact u8_eq h0
  have el : t.getLast? = some 34 := by
    rw [List.getLast?_eq_getElem?, List.getElem?_eq_getElem (by omega)]
    congr 1; apply u8_eq
    have : t.length - 1 = n := by omega
    simp only [this]; exact hl
  rw [if_neg (by rintro (h | h | h); exact absurd h (by omega); exact h e0; exact h el), List.dropLast_eq_take, List.length_drop, hn]
  rfl
theorem unquote_out {t : List UInt8} (h : t.length < 2 ∨ (∃ h : 0 < t.length, (t[0]'h).toNat ≠ 34) ∨ (∃ h : t.length - 1 < t.length, (t[t.length - 1]'h).toNat ≠ 34)) : unquote t = none := by
  unfold unquote
  rw [if_pos]
  rcases h with h | ⟨h0, h⟩ | ⟨h0, h⟩
  · exact .inl h
  · right; left
    rw [List.head?_eq_getElem?, List.getElem?_eq_getElem h0]
    intro e; injection e with e; exact h (by rw [e]; rfl)
  · right; right
    rw [List.getLast?_eq_getElem?, List.getElem?_eq_getElem h0]
    intro e; injection e with e; exact h (by rw [e]; rfl)
set_option maxHeartbeats 1000000 in
theorem value_unquote_short (t : List UInt8) (w : World) (h : t.length < 2) : Calls Try.prog 59 #[.string (str t)] w (RetV w (unqT t)) := by
  rw [unqT_none (unquote_out (.inl h))]
  have d : decide ((t.length : Int) - 1 < 1) = true := by simp; omega
  go_enter Try.func59, Try.ntmps59
  go_wp2_with (fail)
  go_ret2
  exact ⟨rfl, (by repeat (first | exact Below.refl _ _ | refine Below.drew ?_ | refine Below.alloc ?_ (by first | omega | (simp; done) | (simp; omega)) _ | refine Below.setCell ?_ (by first | omega | (simp; done) | (simp; omega)) _ | refine Below.trans ?_ (Below.mono (by assumption) (by first | omega | (simp; done) | (simp; omega)))))⟩
set_option maxHeartbeats 1000000 in
theorem value_unquote_ends (t : List UInt8) (n : Nat) (w : World) (hn : t.length = n + 1) (h1 : 1 ≤ n) (hb : n ≤ 1000000) (h : (t[0]'(by omega)).toNat ≠ 34 ∨ ((t[0]'(by omega)).toNat = 34 ∧ (t[n]'(by omega)).toNat ≠ 34)) : Calls Try.prog 59 #[.string (str t)] w (RetV w (unqT t)) := by
  rw [unqT_none (unquote_out (h.elim (fun h => .inr (.inl ⟨by omega, h⟩)) (fun h => .inr (.inr ⟨by omega, by have e : t.length - 1 = n := (by omega); simp only [e]; exact h.2⟩))))]
  have h0 : 0 < t.length := by omega
  have hnl : n < t.length := by omega
  rcases h with h | ⟨h, h2⟩
  · have q : (((t[0]'h0).toNat : Int) != 34) = true := by rw [bne_iff_ne]; omega
    clear h
    go_enter Try.func59, Try.ntmps59
    go_wp2_with (fail)
    go_ret2
    exact ⟨rfl, (by repeat (first | exact Below.refl _ _ | refine Below.drew ?_ | refine Below.alloc ?_ (by first | omega | (simp; done) | (simp; omega)) _ | refine Below.setCell ?_ (by first | omega | (simp; done) | (simp; omega)) _ | refine Below.trans ?_ (Below.mono (by assumption) (by first | omega | (simp; done) | (simp; omega)))))⟩
  · have q : (((t[0]'h0).toNat : Int) != 34) = false := by rw [bne_eq_false_iff_eq]; omega
    have q2 : (((t[n]'hnl).toNat : Int) != 34) = true := by rw [bne_iff_ne]; omega
    clear h h2
    go_enter Try.func59, Try.ntmps59
    go_wp2_with (fail)
    go_ret2
    exact ⟨rfl, (by repeat (first | exact Below.refl _ _ | refine Below.drew ?_ | refine Below.alloc ?_ (by first | omega | (simp; done) | (simp; omega)) _ | refine Below.setCell ?_ (by first | omega | (simp; done) | (simp; omega)) _ | refine Below.trans ?_ (Below.mono (by assumption) (by first | omega | (simp; done) | (simp; omega)))))⟩
theorem In.of_ownB {w : World} {base : Nat} {e : TypeId} {A : Option Addr} {c : Nat} {l : List UInt8} (h : w.ownsRow base e 1 (.slice A l.length c) l.length (l.flatMap bc)) (hs : l.length ≤ 4294967296) : InB w A c l := by
  obtain ⟨A', c', hv, hin⟩ := In.of_own bc_len h hs
  injection hv with e1 _ e2
  subst e1 e2
  exact hin
def strLen : Value → Nat | .string s => s.size | _ => 0
set_option maxHeartbeats 4000000 in
set_option maxRecDepth 4000 in
theorem value_unquote_in (t : List UInt8) (n : Nat) (w : World) (hn : t.length = n + 1) (h1 : 1 ≤ n) (hb : n ≤ 1000000) (h : (t[0]'(by omega)).toNat = 34) (h2 : (t[n]'(by omega)).toNat = 34) : Calls Try.prog 59 #[.string (str t)] w (RetV w (unqT t)) := by
  have EQ0 := unquote_in hn h1 h h2
  have h0 : 0 < t.length := by omega
  have hnl : n < t.length := by omega
  have q : (((t[0]'h0).toNat : Int) != 34) = false := by rw [bne_eq_false_iff_eq]; omega
  have q2 : (((t[n]'hnl).toNat : Int) != 34) = false := by rw [bne_eq_false_iff_eq]; omega
  obtain ⟨s, hs⟩ : ∃ s, t.tail.take (n - 1) = s := ⟨_, rfl⟩
  have hsl : s.length ≤ 1000000 := by rw [← hs, List.length_take]; omega
  rw [List.drop_one, hs] at EQ0
  have EQ := Lib.hid EQ0
  clear h h2 EQ0
  go_enter Try.func59, Try.ntmps59
  go_wp2_with (fail)
  go_loopw [0, 5] (fun x v wr => ∃ (acc r : List UInt8) (v0 : Value), v = v0 ∧ x = .string (str r) ∧ Hid (UnqAt s acc r) ∧ Hid (wr.ownsRow w.heap.size 5 1 v acc.length (acc.flatMap bc)) ∧ Hid (Below w.heap.size w wr))
    (fun x _ _ => strLen x)
  case atStart => exact ⟨[], s, _, rfl, rfl, UnqAt.start s, World.ownsRow_nil _ _ _ _, Below.refl _ _⟩
  case round =>
    obtain ⟨acc, r, v0, rfl, rfl, U, O, B1⟩ := hrel
    obtain ⟨A9, c9, rfl, -, -⟩ := own_form O.out
    have hz := B1.out.size
    have hac := U.out.2
    have HS := Lib.hid hs
    clear hs
    cases r with
    | nil =>
      have DN := Lib.hid (EQ.out.trans U.out.done)
      have kb := conv_str (P := Try.prog) (w := wr) Try.underlying29 Try.underlying5 Try.underlying9 (In.of_ownB O.out (by omega))
      go_wp2_with (fail)
      go_ret2
      exact ⟨by rw [unqT_some DN.out]; rfl, B1.out⟩
    | cons c r1 =>
      have hc := c.toNat_lt
      have hac1 : acc.length + (r1.length + 1) ≤ s.length := hac
      by_cases g1 : c.toNat < 32 ∨ (¬ c.toNat < 32 ∧ 126 < c.toNat) ∨ (¬ c.toNat < 32 ∧ ¬ 126 < c.toNat ∧ c.toNat = 34)
      · have BAD := Lib.hid (uq_bad (c := c) (r := r1) (by omega))
        rcases g1 with g1 | ⟨g1, g2⟩ | ⟨g1, g2, g3⟩
        · have j1 : decide ((c.toNat : Int) < 32) = true := by rw [decide_eq_true_iff]; omega
          clear g1
          go_wp2_with (fail)
          go_ret2
          refine ⟨?_, B1.out⟩
          rw [unqT_none (EQ.out.trans (U.out.bad BAD.out))]
          rfl
        · have j1 : decide ((c.toNat : Int) < 32) = false := by rw [decide_eq_false_iff_not]; omega
          have j2 : decide ((126 : Int) < (c.toNat : Int)) = true := by rw [decide_eq_true_iff]; omega
          clear g1 g2
          go_wp2_with (fail)
          go_ret2
          refine ⟨?_, B1.out⟩
          rw [unqT_none (EQ.out.trans (U.out.bad BAD.out))]
          rfl
        · have j1 : decide ((c.toNat : Int) < 32) = false := by rw [decide_eq_false_iff_not]; omega
          have j2 : decide ((126 : Int) < (c.toNat : Int)) = false := by rw [decide_eq_false_iff_not]; omega
          have j3 : ((c.toNat : Int) == 34) = true := by rw [beq_iff_eq]; omega
          clear g1 g2 g3
          go_wp2_with (fail)
          go_ret2
          refine ⟨?_, B1.out⟩
          rw [unqT_none (EQ.out.trans (U.out.bad BAD.out))]
          rfl
      · have j1 : decide ((c.toNat : Int) < 32) = false := by rw [decide_eq_false_iff_not]; omega
        have j2 : decide ((126 : Int) < (c.toNat : Int)) = false := by rw [decide_eq_false_iff_not]; omega
        have j3 : ((c.toNat : Int) == 34) = false := by rw [beq_eq_false_iff_ne]; omega
        have G1 := Lib.hid (show ¬ c.toNat < 32 ∧ ¬ 126 < c.toNat ∧ c.toNat ≠ 34 by omega)
        clear g1
        by_cases g2 : c.toNat = 92
        · have j4 : ((c.toNat : Int) != 92) = false := by rw [bne_eq_false_iff_eq]; omega
          have G2 := Lib.hid g2
          clear g2
          cases r1 with
          | nil =>
            have BAD := Lib.hid (uq_one G2.out)
            go_wp2_with (fail)
            go_ret2
            refine ⟨?_, B1.out⟩
            rw [unqT_none (EQ.out.trans (U.out.bad BAD.out))]
            rfl
          | cons d r2 =>
            have hd := d.toNat_lt
            have hac2 : acc.length + (r2.length + 1 + 1) ≤ s.length := hac1
            by_cases g3 : d.toNat = 34 ∨ (d.toNat ≠ 34 ∧ d.toNat = 92)
            · have U2 := Lib.hid (U.out.step (uq_esc G2.out (g3.imp id (fun h => h.2))) (by simp; omega))
              rcases g3 with g3 | ⟨g3, g4⟩
              · have j5 : ((d.toNat : Int) == 34) = true := by rw [beq_iff_eq]; omega
                clear g3
                go_wp2_with ((at_builtin; refine Stop.out ?_))
                refine Stop.mk (wpList_app _ rfl _ _ elemB rfl w.heap.size (.slice A9 acc.length c9) acc.length _ rfl (own_below O.out ((Below.refl _ _).alloc (Nat.le_refl _) _)) _ 1 1 (bc d) rfl (Src.new _ (bc d) _ 1 rfl) (by simp [bc, Value.oneCell']) (by omega) (by have := B1.out.size; simp; omega) ?_)
                intro v4 w4 own4 _ hb4 _
                have B4 := Lib.hid (B1.out.trans ((((Below.refl _ _).alloc hz _)).trans hb4))
                have O4 := Lib.hid (show w4.ownsRow w.heap.size 5 1 v4 ((acc ++ [d]).length) ((acc ++ [d]).flatMap bc) by simpa using own4)
                clear own4 hb4 O B1
                go_wp2_with (fail)
                go_roundw
                case rel => exact ⟨acc ++ [d], r2, _, rfl, rfl, U2.out, O4.out, B4.out⟩
                case measure => first | (simp [strLen]; done) | (simp [strLen]; omega)
              · have j5 : ((d.toNat : Int) == 34) = false := by rw [beq_eq_false_iff_ne]; omega
                have j6 : ((d.toNat : Int) == 92) = true := by rw [beq_iff_eq]; omega
                clear g3 g4
                go_wp2_with ((at_builtin; refine Stop.out ?_))
                refine Stop.mk (wpList_app _ rfl _ _ elemB rfl w.heap.size (.slice A9 acc.length c9) acc.length _ rfl (own_below O.out ((Below.refl _ _).alloc (Nat.le_refl _) _)) _ 1 1 (bc d) rfl (Src.new _ (bc d) _ 1 rfl) (by simp [bc, Value.oneCell']) (by omega) (by have := B1.out.size; simp; omega) ?_)
                intro v4 w4 own4 _ hb4 _
                have B4 := Lib.hid (B1.out.trans ((((Below.refl _ _).alloc hz _)).trans hb4))
                have O4 := Lib.hid (show w4.ownsRow w.heap.size 5 1 v4 ((acc ++ [d]).length) ((acc ++ [d]).flatMap bc) by simpa using own4)
                clear own4 hb4 O B1
                go_wp2_with (fail)
                go_roundw
                case rel => exact ⟨acc ++ [d], r2, _, rfl, rfl, U2.out, O4.out, B4.out⟩
                case measure => first | (simp [strLen]; done) | (simp [strLen]; omega)
            · have j5 : ((d.toNat : Int) == 34) = false := by rw [beq_eq_false_iff_ne]; omega
              have j6 : ((d.toNat : Int) == 92) = false := by rw [beq_eq_false_iff_ne]; omega
              have G3 := Lib.hid (show d.toNat ≠ 34 ∧ d.toNat ≠ 92 by omega)
              clear g3
              cases r2 with
              | nil =>
                have BAD := Lib.hid (uq_short (s := []) G2.out G3.out.1 G3.out.2 (by simp))
                go_wp2_with (fail)
                go_ret2
                refine ⟨?_, B1.out⟩
                rw [unqT_none (EQ.out.trans (U.out.bad BAD.out))]
                rfl
              | cons a r3 =>
                cases r3 with
                | nil =>
                  have BAD := Lib.hid (uq_short (s := [a]) G2.out G3.out.1 G3.out.2 (by simp))
                  go_wp2_with (fail)
                  go_ret2
                  refine ⟨?_, B1.out⟩
                  rw [unqT_none (EQ.out.trans (U.out.bad BAD.out))]
                  rfl
                | cons b r4 =>
                  have ha := a.toNat_lt
                  have hbb := b.toNat_lt
                  have hva := hexV_le a
                  have hvb := hexV_le b
                  have hac4 : acc.length + (r4.length + 1 + 1 + 1 + 1) ≤ s.length := hac2
                  have l4 : decide ((r4.length : Int) + 1 + 1 + 1 + 1 < 4) = false := by rw [decide_eq_false_iff_not]; omega
                  by_cases g4 : d.toNat = 120
                  case neg =>
                    have BAD := Lib.hid (uq_hexbad (a := a) (b := b) (s := r4) G2.out G3.out.1 G3.out.2 (.inl g4))
                    have j7 : ((d.toNat : Int) != 120) = true := by rw [bne_iff_ne]; omega
                    clear g4
                    go_wp2_with (fail)
                    go_ret2
                    refine ⟨?_, B1.out⟩
                    rw [unqT_none (EQ.out.trans (U.out.bad BAD.out))]
                    rfl
                  case pos =>
                    have G4 := Lib.hid g4
                    have j7 : ((d.toNat : Int) != 120) = false := by rw [bne_eq_false_iff_eq]; omega
                    clear g4
                    obtain ⟨va, hva'⟩ : ∃ v, v = hexV a := ⟨_, rfl⟩
                    obtain ⟨vb, hvb'⟩ : ∃ v, v = hexV b := ⟨_, rfl⟩
                    have HVA := Lib.hid hva'
                    have HVB := Lib.hid hvb'
                    have CA := Lib.hid (fun w' => show Calls Try.prog 66 #[.int .u8 a.toNat] w' (RetV w' (.int .u8 va)) by rw [hva']; exact c_value_hex a w')
                    have CB := Lib.hid (fun w' => show Calls Try.prog 66 #[.int .u8 b.toNat] w' (RetV w' (.int .u8 vb)) by rw [hvb']; exact c_value_hex b w')
                    rw [← hva'] at hva
                    rw [← hvb'] at hvb
                    clear hva' hvb'
                    by_cases g5 : 15 < va
                    · have BAD := Lib.hid (uq_hexbad (a := a) (b := b) (s := r4) G2.out G3.out.1 G3.out.2 (.inr (.inl (by rw [← HVA.out]; exact g5))))
                      have j8 : decide ((15 : Int) < (va : Int)) = true := by rw [decide_eq_true_iff]; omega
                      clear g5
                      go_wp2_with (fail)
                      refine (CA.out _).mono ?_
                      rintro e w5 ⟨rfl, hb5⟩
                      replace B1 := Lib.hid (B1.out.trans (hb5.mono hz))
                      clear hb5
                      go_wp2_with (fail)
                      go_ret2
                      refine ⟨?_, B1.out⟩
                      rw [unqT_none (EQ.out.trans (U.out.bad BAD.out))]
                      rfl
                    · have j8 : decide ((15 : Int) < (va : Int)) = false := by rw [decide_eq_false_iff_not]; omega
                      have G5 := Lib.hid g5
                      clear g5
                      go_wp2_with (fail)
                      refine (CA.out _).mono ?_
                      rintro e w5 ⟨rfl, hb5⟩
                      replace O := Lib.hid (own_below O.out hb5)
                      replace B1 := Lib.hid (B1.out.trans (hb5.mono hz))
                      clear hb5 hz
                      have hz := B1.out.size
                      go_wp2_with (fail)
                      refine (CB.out _).mono ?_
                      rintro e w6 ⟨rfl, hb6⟩
                      replace O := Lib.hid (own_below O.out hb6)
                      replace B1 := Lib.hid (B1.out.trans (hb6.mono hz))
                      clear hb6 hz
                      have hz := B1.out.size
                      by_cases g6 : 15 < vb
                      · have BAD := Lib.hid (uq_hexbad (a := a) (b := b) (s := r4) G2.out G3.out.1 G3.out.2 (.inr (.inr (.inl (by rw [← HVB.out]; exact g6)))))
                        have j9 : decide ((15 : Int) < (vb : Int)) = true := by rw [decide_eq_true_iff]; omega
                        clear g6
                        go_wp2_with (fail)
                        go_ret2
                        refine ⟨?_, B1.out⟩
                        rw [unqT_none (EQ.out.trans (U.out.bad BAD.out))]
                        rfl
                      · have j9 : decide ((15 : Int) < (vb : Int)) = false := by rw [decide_eq_false_iff_not]; omega
                        have G6 := Lib.hid g6
                        clear g6
                        go_wp2_with (fail)
                        have SHL := Lib.hid (show ((va : Int) * 16) % 256 = ((16 * va : Nat) : Int) by have := G5.out; omega)
                        have OR := Lib.hid (or_hex (x := va) (y := vb) (by have := G5.out; omega) (by have := G6.out; omega))
                        refine wp_region_rel [Sp.eq (.string (str (c :: d :: a :: b :: r4))), Sp.eq (.int .u8 a.toNat), Sp.eq (.int .u8 va), Sp.eq (.int .u8 ((16 * va : Nat) : Int)), Sp.eq (.string (str (c :: d :: a :: b :: r4))), Sp.eq (.int .u8 b.toNat), Sp.eq (.int .u8 vb), Sp.eq (.int .u8 ((16 * va + vb : Nat) : Int)), Sp.eq (.int .u8 ((16 * va + vb : Nat) : Int))] 114 (by kernel_rfl) (by kernel_rfl) rfl rfl ?_ ?_
                        · refine ⟨?_, ?_, ?_, ?_, ?_, ?_, ?_, ?_, ?_, trivial⟩
                          all_goals (intro u W2 hb2 hd; simp [Deps, Region.binds, Sp.eq_holds] at hd; simp only [putDeps, dstOf, Region.binds])
                          case refine_1 =>
                            go_wp2_with (fail); exact RelEnd.mk rfl (Below.refl _ _) rfl
                          case refine_2 =>
                            go_wp2_with (fail); exact RelEnd.mk rfl (Below.refl _ _) rfl
                          case refine_3 =>
                            go_wp2_with (go_at_call 66; refine (CA.out _).mono ?_; rintro e3 W3 ⟨rfl, hb3⟩)
                            exact RelEnd.mk rfl hb3 rfl
                          case refine_4 =>
                            go_wp2_with (fail)
                            refine RelEnd.mk rfl (Below.refl _ _) ?_
                            show Value.int _ _ = Value.int _ _
                            rw [SHL.out]
                          case refine_5 =>
                            go_wp2_with (fail); exact RelEnd.mk rfl (Below.refl _ _) rfl
                          case refine_6 =>
                            go_wp2_with (fail); exact RelEnd.mk rfl (Below.refl _ _) rfl
                          case refine_7 =>
                            go_wp2_with (go_at_call 66; refine (CB.out _).mono ?_; rintro e3 W3 ⟨rfl, hb3⟩)
                            exact RelEnd.mk rfl hb3 rfl
                          case refine_8 =>
                            go_wp2_with (fail)
                            refine RelEnd.mk rfl (Below.refl _ _) ?_
                            show Value.int _ _ = Value.int _ _
                            rw [OR.out]
                          case refine_9 =>
                            go_wp2_with (fail); exact RelEnd.mk rfl (Below.refl _ _) rfl
                        · intro u W2 hb2 hold
                          simp only [RelHold, Sp.eq_holds, Nat.reduceAdd] at hold
                          obtain ⟨-, -, -, -, -, -, -, -, hE, -⟩ := hold
                          simp only [putAll, Act.put, Nat.reduceAdd, List.setIfInBounds_toArray, List.set_cons_zero, List.set_cons_succ]
                          rw [hE]
                          obtain ⟨x, hx⟩ : ∃ x : UInt8, x.toNat = 16 * va + vb := ⟨UInt8.ofNat (16 * va + vb), by simp; have := G5.out; have := G6.out; omega⟩
                          rw [← hx]
                          have hxx := x.toNat_lt
                          have XE := Lib.hid (show UInt8.ofNat (16 * hexV a + hexV b) = x by rw [← HVA.out, ← HVB.out, ← hx]; simp)
                          have HX := Lib.hid hx
                          replace O := Lib.hid (own_below O.out hb2)
                          replace B1 := Lib.hid (B1.out.trans (hb2.mono hz))
                          clear hb2 hx hz SHL OR CA CB
                          have hz := B1.out.size
                          by_cases g7 : 32 ≤ x.toNat ∧ x.toNat ≤ 126
                          · have BAD := Lib.hid (uq_hexbad (a := a) (b := b) (s := r4) G2.out G3.out.1 G3.out.2 (.inr (.inr (.inr (by rw [← HVA.out, ← HVB.out, ← HX.out]; exact g7)))))
                            have k1 : decide ((32 : Int) ≤ (x.toNat : Int)) = true := by rw [decide_eq_true_iff]; omega
                            have k2 : decide ((x.toNat : Int) ≤ 126) = true := by rw [decide_eq_true_iff]; omega
                            clear g7
                            go_wp2_with (fail)
                            go_ret2
                            refine ⟨?_, B1.out⟩
                            rw [unqT_none (EQ.out.trans (U.out.bad BAD.out))]
                            rfl
                          · have U2 := Lib.hid (show UnqAt s (acc ++ [x]) r4 by rw [← XE.out]; exact U.out.step (uq_hexok G2.out G4.out (by rw [← HVA.out, ← HVB.out]; have h5 := G5.out; have h6 := G6.out; have h7 := HX.out; omega)) (by simp; omega))
                            have hcs : ¬ 32 ≤ x.toNat ∨ (32 ≤ x.toNat ∧ ¬ x.toNat ≤ 126) := by omega
                            clear g7
                            rcases hcs with g8 | ⟨g8, g9⟩
                            · have k1 : decide ((32 : Int) ≤ (x.toNat : Int)) = false := by rw [decide_eq_false_iff_not]; omega
                              clear g8
                              go_wp2_with ((at_builtin; refine Stop.out ?_))
                              refine Stop.mk (wpList_app _ rfl _ _ elemB rfl w.heap.size (.slice A9 acc.length c9) acc.length _ rfl (own_below O.out ((Below.refl _ _).alloc (Nat.le_refl _) _)) _ 1 1 (bc x) rfl (Src.new _ (bc x) _ 1 rfl) (by simp [bc, Value.oneCell']) (by omega) (by have := B1.out.size; simp; omega) ?_)
                              intro v4 w4 own4 _ hb4 _
                              have B4 := Lib.hid (B1.out.trans ((((Below.refl _ _).alloc hz _)).trans hb4))
                              have O4 := Lib.hid (show w4.ownsRow w.heap.size 5 1 v4 ((acc ++ [x]).length) ((acc ++ [x]).flatMap bc) by simpa using own4)
                              clear own4 hb4 O B1
                              go_wp2_with (fail)
                              go_roundw
                              case rel => exact ⟨acc ++ [x], r4, _, rfl, rfl, U2.out, O4.out, B4.out⟩
                              case measure => first | (simp [strLen]; done) | (simp [strLen]; omega)
                            · have k1 : decide ((32 : Int) ≤ (x.toNat : Int)) = true := by rw [decide_eq_true_iff]; omega
                              have k2 : decide ((x.toNat : Int) ≤ 126) = false := by rw [decide_eq_false_iff_not]; omega
                              clear g8 g9
                              go_wp2_with ((at_builtin; refine Stop.out ?_))
                              refine Stop.mk (wpList_app _ rfl _ _ elemB rfl w.heap.size (.slice A9 acc.length c9) acc.length _ rfl (own_below O.out ((Below.refl _ _).alloc (Nat.le_refl _) _)) _ 1 1 (bc x) rfl (Src.new _ (bc x) _ 1 rfl) (by simp [bc, Value.oneCell']) (by omega) (by have := B1.out.size; simp; omega) ?_)
                              intro v4 w4 own4 _ hb4 _
                              have B4 := Lib.hid (B1.out.trans ((((Below.refl _ _).alloc hz _)).trans hb4))
                              have O4 := Lib.hid (show w4.ownsRow w.heap.size 5 1 v4 ((acc ++ [x]).length) ((acc ++ [x]).flatMap bc) by simpa using own4)
                              clear own4 hb4 O B1
                              go_wp2_with (fail)
                              go_roundw
                              case rel => exact ⟨acc ++ [x], r4, _, rfl, rfl, U2.out, O4.out, B4.out⟩
                              case measure => first | (simp [strLen]; done) | (simp [strLen]; omega)
        · have j4 : ((c.toNat : Int) != 92) = true := by rw [bne_iff_ne]; omega
          have U2 := Lib.hid (U.out.step (uq_plain G1.out.1 G1.out.2.1 G1.out.2.2 g2) (by simp))
          clear g2
          go_wp2_with ((at_builtin; refine Stop.out ?_))
          refine Stop.mk (wpList_app _ rfl _ _ elemB rfl w.heap.size (.slice A9 acc.length c9) acc.length _ rfl (own_below O.out ((Below.refl _ _).alloc (Nat.le_refl _) _)) _ 1 1 (bc c) rfl (Src.new _ (bc c) _ 1 rfl) (by simp [bc, Value.oneCell']) (by omega) (by have := B1.out.size; simp; omega) ?_)
          intro v4 w4 own4 _ hb4 _
          have B4 := Lib.hid (B1.out.trans ((((Below.refl _ _).alloc hz _)).trans hb4))
          have O4 := Lib.hid (show w4.ownsRow w.heap.size 5 1 v4 ((acc ++ [c]).length) ((acc ++ [c]).flatMap bc) by simpa using own4)
          clear own4 hb4 O B1
          go_wp2_with (fail)
          go_roundw
          case rel => exact ⟨acc ++ [c], r1, _, rfl, rfl, U2.out, O4.out, B4.out⟩
          case measure => first | (simp [strLen]; done) | (simp [strLen]; omega)
end Go.Proofs.Ytbidnflcbgnckaa
namespace Go.Proofs.Ytbidnflcbgnckaa
open Go.RowKit

/-- The type ty is a struct or an array of n cells. -/
structure Str (P : Program) (ty : TypeId) (n : Nat) : Prop where
  desc : ∃ d, P.underlying ty = some d ∧ (match d with | .struct _ | .array _ _ => true | _ => false) = true
  size : (P.info? ty).map (·.size) = some n
section
variable {P : Program} {w : World}
theorem Kept.one {g : Nat} {w' : World} (h : Kept (some g) w.heap.size w w') {p : Option Nat} {B : Nat} (hB : B ≤ w.heap.size) (hg : B ≤ g ∨ p = some g) : Kept p B w w' :=
  ⟨h.os, h.tape, h.output, h.size, fun k hk hp => h.block k (by omega) (fun e => by
    injection e with e; subst e
    rcases hg with hg | hg
    · omega
    · exact hp hg)⟩
theorem Kept.oneB {g B : Nat} {w' : World} (h : Kept (some g) w.heap.size w w') (hB : B ≤ w.heap.size) (hg : B ≤ g) : Below B w w' := h.below hB (fun k hk => by injection hk with hk; omega)
theorem wpList_loadB {ops : Array Oper} {rest : List Oper} {o : Oper} {a : Act} {Q : Exit → Act → World → Prop} (hgd : o.guard = none) (ty : TypeId) (x : Operand) (ho : o.op = .load ty x)
    (g : Nat) (hx : a.eval x = .pointer (some ⟨g, 0, none⟩)) (cs : Array Value) (hb : Blk w g cs) {n : Nat} (S : Str P ty n) (hn : cs.size = n)
    (h : wpList P ops Q rest (a.put o.dst (.agg cs)) w) : wpList P ops Q (o :: rest) a w := by
  obtain ⟨d, h1, h2⟩ := S.desc
  obtain ⟨t, hb⟩ := hb
  exact wpList_load_row hgd ty x ho g hx t cs (0, 0) d hb h1 (by cases d <;> first | rfl | (simp at h2)) (by rw [S.size, hn]) h
theorem Blk.row {g : Nat} {cs : Array Value} (hb : Blk w g cs) (cells : Array Value) : Blk (w.setRow g cells) g cells ∧ Kept (some g) w.heap.size w (w.setRow g cells) := by
  have hlt := hb.lt
  obtain ⟨t, hb⟩ := hb
  exact ⟨⟨t, setRow_heap w g _ _ t _ hb⟩, ⟨rfl, rfl, rfl, by simp [World.setRow], fun k hk hp => setRow_other w g k _ (fun e => hp (by rw [e]))⟩⟩
theorem wsB {ops : Array Oper} {rest : List Oper} {o : Oper} {a : Act} {Q : Exit → Act → World → Prop} (hgd : o.guard = none) (ty : TypeId) (x y : Operand) (ho : o.op = .store ty x y)
    (g : Nat) (cells : Array Value) (hx : a.eval x = .pointer (some ⟨g, 0, none⟩)) (hy : a.eval y = .agg cells) (old : Array Value) (hb : Blk w g old) {n : Nat} (S : Str P ty n) (hn : cells.size = n)
    (hold : old.size = cells.size) (h1 : cells.all (·.oneCell') = true)
    (h : ∀ w', Blk w' g cells → Kept (some g) w.heap.size w w' → wpList P ops Q rest (a.put o.dst undef) w') : wpList P ops Q (o :: rest) a w := by
  obtain ⟨k1, k2⟩ := hb.row cells
  obtain ⟨t, hb⟩ := hb
  exact wpList_store_row hgd ty x y ho g cells hx hy t old hb (by rw [S.size, hn]) hold h1 (h _ k1 k2)
/-- The walk stands still at a read, at a store of a value of type ty. -/
theorem stop_load {ops : Array Oper} {rest : List Oper} {o : Oper} {a : Act} {Q : Exit → Act → World → Prop} (ty : TypeId) (x : Operand) (_ : o.guard = none) (_ : o.op = .load ty x) (h : Stop (wpList P ops Q (o :: rest) a w)) : wpList P ops Q (o :: rest) a w := h
theorem stS {ops : Array Oper} {rest : List Oper} {o : Oper} {a : Act} {Q : Exit → Act → World → Prop} (ty : TypeId) (x y : Operand) (_ : o.guard = none) (_ : o.op = .store ty x y) (h : Stop (wpList P ops Q (o :: rest) a w)) : wpList P ops Q (o :: rest) a w := h
theorem results_B {fn : Func} {p : Tmp} {ty : TypeId} (h : fn.results = #[.cell p ty]) {tmps : Array Value} {g : Nat} {cs : Array Value} (hp : tmps.getD p undef = .pointer (some ⟨g, 0, none⟩)) (hb : Blk w g cs) {n : Nat} (S : Str P ty n) (hn : cs.size = n) :
    (results fn tmps).run P w = .ok (.agg cs) w := by
  obtain ⟨d, h1, h2⟩ := S.desc
  obtain ⟨t, hb⟩ := hb
  exact results_cell_row h tmps w g t cs (0, 0) d hp hb h1 (by cases d <;> first | rfl | (simp at h2)) (by rw [S.size, hn])
end
end Go.Proofs.Ytbidnflcbgnckaa
namespace Go.Proofs.Ytbidnflcbgnckaa
open Go.RowKit

/-- A world behind the making of one block, in which that block is as it was made. -/
def At (w w' : World) (cs : Array Value) : Prop := Below w.heap.size w w' ∧ Blk w' w.heap.size cs
theorem At.new (w : World) (t : TypeId) (cs : Array Value) : At w (w.alloc (.cells cs t)) cs := ⟨(Below.refl _ _).alloc (Nat.le_refl _) _, Blk.new _ _ _⟩
theorem At.step {w w1 w2 : World} {cs : Array Value} (h : At w w1 cs) (hb : Below w1.heap.size w1 w2) : At w w2 cs := ⟨h.1.trans (hb.mono h.1.size), h.2.below hb h.2.lt⟩
theorem At.alloc {w w1 : World} {cs : Array Value} (h : At w w1 cs) (o : Obj) : At w (w1.alloc o) cs := h.step ((Below.refl _ _).alloc (Nat.le_refl _) o)
end Go.Proofs.Ytbidnflcbgnckaa
namespace Go.Proofs.Ytbidnflcbgnckaa
open Go.RowKit

theorem results_B2 {P : Program} {w : World} {fn : Func} {p s : Tmp} {ty : TypeId} (h : fn.results = #[.cell p ty, .tmp s]) {tmps : Array Value} {g : Nat} {cs : Array Value} {v : Value} (hp : tmps.getD p undef = .pointer (some ⟨g, 0, none⟩)) (hv : tmps.getD s undef = v) (hb : Blk w g cs) {n : Nat} (S : Str P ty n) (hn : cs.size = n) :
    (results fn tmps).run P w = .ok (.tuple #[.agg cs, v]) w := by
  obtain ⟨d, h1, h2⟩ := S.desc
  obtain ⟨t, hb⟩ := hb
  have hl := run_loadVar_row (P := P) w g t ty cs (0, 0) d hb h1 (by cases d <;> first | rfl | (simp at h2)) (by rw [S.size, hn])
  have hp' : tmps[p]?.getD undef = .pointer (some ⟨g, 0, none⟩) := by simpa using hp
  have hv' : tmps[s]?.getD undef = v := by simpa using hv
  simp [results, h, hp', hv', asAddr, hl]
theorem fresh_below {w w' : World} {o : Obj} (hk : Kept (some w.heap.size) (w.alloc o).heap.size (w.alloc o) w') : Below w.heap.size w w' := ((Below.refl _ _).alloc (Nat.le_refl _) _).trans (hk.oneB (by simp) (Nat.le_refl _))
/-- The first block of a call's own is made. -/
theorem At.go {P : Program} {ops : Array Oper} {l : List Oper} {a : Act} {Q : Exit → Act → World → Prop} {t : TypeId} {w : World} {cs : Array Value} (h : ∀ w', At w w' cs → w'.heap.size = w.heap.size + 1 → wpList P ops Q l a w') :
    wpList P ops Q l a (w.alloc (.cells cs t)) := h _ (At.new w t cs) (by simp)
theorem At.as {w w' : World} {cs ds : Array Value} (h : At w w' cs) (e : cs = ds) : At w w' ds := e ▸ h
theorem At.kept {w w1 w2 : World} {cs : Array Value} (h : At w w1 cs) {q : Nat} (hq : w.heap.size < q) (k : Kept (some q) w1.heap.size w1 w2) : At w w2 cs :=
  ⟨h.1.trans (k.oneB h.1.size (by omega)), h.2.kept k h.2.lt (fun e => by injection e with e; omega)⟩
theorem At.lt {w w' : World} {cs : Array Value} (h : At w w' cs) : w.heap.size < w'.heap.size := h.2.lt
end Go.Proofs.Ytbidnflcbgnckaa
namespace Go.Proofs.Ytbidnflcbgnckaa
open Go.RowKit

section
variable {P : Program} {w : World}
theorem Str.agg {ty : TypeId} {n : Nat} (S : Str P ty n) (w : World) : (isAgg ty).run P w = .ok true w := by
  obtain ⟨d, h1, h2⟩ := S.desc
  unfold isAgg
  rw [Sem.run_bind, run_underlying h1 w]
  cases d <;> simp_all
theorem Str.sizeOf {ty : TypeId} {n : Nat} (S : Str P ty n) (w : World) : (Go.sizeOf ty).run P w = .ok n w := by
  have h := S.size
  cases hq : P.info? ty with
  | none => rw [hq] at h; cases h
  | some i =>
    rw [hq] at h
    simp at h
    simp [Go.sizeOf, typeInfo, hq, h]
theorem Blk.all {g : Nat} {cs : Array Value} (h : Blk w g cs) (j : Nat) (u : Value) (hu : cs[j]? = some u) : w.cell? ⟨g, 0 + j, none⟩ = some u := by rw [Nat.zero_add]; exact h.cell hu
end
/-! Equality. -/
section
variable {P : Program} {w : World}
end
abbrev Val.c3 (x : Val) : Array Value := #[.int .i64 x.kind, .int .i64 x.n, .string (str x.s)]
end Go.Proofs.Ytbidnflcbgnckaa
namespace Go.Proofs.Ytbidnflcbgnckaa
open Go.RowKit

theorem c_value_unquote (t : List UInt8) (w : World) (hb : t.length ≤ 1000000) : Calls Try.prog 59 #[.string (str t)] w (RetV w (unqT t)) := by
  by_cases h : t.length < 2
  · exact value_unquote_short t w h
  · obtain ⟨n, hn⟩ : ∃ n, t.length = n + 1 := ⟨t.length - 1, by omega⟩
    by_cases h1 : (t[0]'(by omega)).toNat = 34
    · by_cases h2 : (t[n]'(by omega)).toNat = 34
      · exact value_unquote_in t n w hn (by omega) (by omega) h1 h2
      · exact value_unquote_ends t n w hn (by omega) (by omega) (.inr ⟨h1, h2⟩)
    · exact value_unquote_ends t n w hn (by omega) (by omega) (.inl h1)
/-- A value off its text. -/
def valR (t : List UInt8) : Option Val := if t = [45] then some ⟨0, 0, []⟩ else match intR t 1099511627776 with
  | some n => some ⟨1, n, []⟩
  | none => match unquote t with
    | some u => if u.length ≤ 24 then some ⟨2, 0, u⟩ else none
    | none => none
abbrev vz : Val := ⟨0, 0, []⟩
def valT (t : List UInt8) : Value := .tuple #[.agg ((valR t).getD vz).c3, .bool (valR t).isSome]
theorem valT_some {t : List UInt8} {v : Val} (h : valR t = some v) : valT t = .tuple #[.agg v.c3, .bool true] := by unfold valT; rw [h]; rfl
theorem valT_none {t : List UInt8} (h : valR t = none) : valT t = .tuple #[.agg vz.c3, .bool false] := by unfold valT; rw [h]; rfl
theorem valR_dash : valR [45] = some vz := by unfold valR; rw [if_pos rfl]
theorem strVl : Str Try.prog 39 3 := ⟨⟨_, Try.underlying39, rfl⟩, by kernel_rfl⟩
set_option maxHeartbeats 1000000 in
theorem c_value_Read (t : List UInt8) (w : World) (hb : t.length ≤ 1000000) : Calls Try.prog 48 #[.string (str t)] w (RetV w (valT t)) := by
  have B0 := Lib.hid (At.new w 39 vz.c3)
  by_cases h0 : t = [45]
  · subst h0
    rw [valT_some valR_dash]
    go_enter Try.func48, Try.ntmps48
    go_wp2_with (with_reducible refine stS 39 (.tmp 2) (.tmp 10) rfl rfl ?_)
    refine Stop.mk (wsB rfl _ _ _ rfl w.heap.size _ rfl rfl _ B0.out.2 strVl rfl rfl (by simp [Value.oneCell']) ?_)
    intro w9 hb9 hk9
    go_wp2_with (fail)
    refine bodyPost_ret (results_B2 rfl rfl rfl hb9 strVl rfl) rfl ⟨?_, B0.out.1.trans (hk9.oneB B0.out.1.size (Nat.le_refl _))⟩
    rfl
  · have j0 : (t == [45]) = false := by simpa using h0
    have V0 := Lib.hid (show valR t = match intR t 1099511627776 with | some n => some (⟨1, n, []⟩ : Val) | none => match unquote t with | some u => if u.length ≤ 24 then some ⟨2, 0, u⟩ else none | none => none by unfold valR; rw [if_neg h0])
    have CI := Lib.hid (fun w' => c_bits_Int t 1099511627776 w' (by omega))
    have CU := Lib.hid (fun w' => c_value_unquote t w' hb)
    clear h0
    cases hi : intR t 1099511627776 with
    | some n =>
      have e1 := intR_some hi
      rw [e1.1, e1.2] at CI
      have VE := Lib.hid (show valR t = some ⟨1, n, []⟩ by rw [V0.out, hi])
      rw [valT_some VE.out]
      clear e1 hi CU
      go_enter Try.func48, Try.ntmps48
      go_wp2_with (fail)
      refine (CI.out _).mono ?_
      rintro e w1 ⟨rfl, hb1⟩
      replace B0 := Lib.hid (B0.out.step hb1)
      go_wp2_with (with_reducible refine stS 39 (.tmp 2) (.tmp 18) rfl rfl ?_)
      refine Stop.mk (wsB rfl _ _ _ rfl w.heap.size _ rfl rfl _ B0.out.2 strVl rfl rfl (by simp [Value.oneCell']) ?_)
      intro w9 hb9 hk9
      go_wp2_with (fail)
      refine bodyPost_ret (results_B2 rfl rfl rfl hb9 strVl rfl) rfl ⟨?_, B0.out.1.trans (hk9.oneB B0.out.1.size (Nat.le_refl _))⟩
      rfl
    | none =>
      have e1 := intR_none hi
      rw [e1.1, e1.2] at CI
      cases hu : unquote t with
      | none =>
        have VE := Lib.hid (show valR t = none by rw [V0.out, hi, hu])
        rw [unqT_none hu] at CU
        rw [valT_none VE.out]
        clear e1 hi hu
        go_enter Try.func48, Try.ntmps48
        go_wp2_with (fail)
        refine (CI.out _).mono ?_
        rintro e w1 ⟨rfl, hb1⟩
        replace B0 := Lib.hid (B0.out.step hb1)
        go_wp2_with (fail)
        refine (CU.out _).mono ?_
        rintro e w2 ⟨rfl, hb2⟩
        replace B0 := Lib.hid (B0.out.step hb2)
        go_wp2_with (with_reducible refine stS 39 (.tmp 2) (.tmp 31) rfl rfl ?_)
        refine Stop.mk (wsB rfl _ _ _ rfl w.heap.size _ rfl rfl _ B0.out.2 strVl rfl rfl (by simp [Value.oneCell']) ?_)
        intro w9 hb9 hk9
        go_wp2_with (fail)
        refine bodyPost_ret (results_B2 rfl rfl rfl hb9 strVl rfl) rfl ⟨?_, B0.out.1.trans (hk9.oneB B0.out.1.size (Nat.le_refl _))⟩
        rfl
      | some u =>
        rw [unqT_some hu] at CU
        by_cases hl : u.length ≤ 24
        · have VE := Lib.hid (show valR t = some ⟨2, 0, u⟩ by rw [V0.out, hi, hu]; exact if_pos hl)
          rw [valT_some VE.out]
          have j1 : decide ((24 : Int) < (u.length : Int)) = false := by rw [decide_eq_false_iff_not]; omega
          clear e1 hi hu hl
          go_enter Try.func48, Try.ntmps48
          go_wp2_with (fail)
          refine (CI.out _).mono ?_
          rintro e w1 ⟨rfl, hb1⟩
          replace B0 := Lib.hid (B0.out.step hb1)
          go_wp2_with (fail)
          refine (CU.out _).mono ?_
          rintro e w2 ⟨rfl, hb2⟩
          replace B0 := Lib.hid (B0.out.step hb2)
          go_wp2_with (with_reducible refine stS 39 (.tmp 2) (.tmp 33) rfl rfl ?_)
          refine Stop.mk (wsB rfl _ _ _ rfl w.heap.size _ rfl rfl _ B0.out.2 strVl rfl rfl (by simp [Value.oneCell']) ?_)
          intro w9 hb9 hk9
          go_wp2_with (fail)
          refine bodyPost_ret (results_B2 rfl rfl rfl hb9 strVl rfl) rfl ⟨?_, B0.out.1.trans (hk9.oneB B0.out.1.size (Nat.le_refl _))⟩
          rfl
        · have VE := Lib.hid (show valR t = none by rw [V0.out, hi, hu]; exact if_neg hl)
          rw [valT_none VE.out]
          have j1 : decide ((24 : Int) < (u.length : Int)) = true := by rw [decide_eq_true_iff]; omega
          clear e1 hi hu hl
          go_enter Try.func48, Try.ntmps48
          go_wp2_with (fail)
          refine (CI.out _).mono ?_
          rintro e w1 ⟨rfl, hb1⟩
          replace B0 := Lib.hid (B0.out.step hb1)
          go_wp2_with (fail)
          refine (CU.out _).mono ?_
          rintro e w2 ⟨rfl, hb2⟩
          replace B0 := Lib.hid (B0.out.step hb2)
          go_wp2_with (with_reducible refine stS 39 (.tmp 2) (.tmp 31) rfl rfl ?_)
          refine Stop.mk (wsB rfl _ _ _ rfl w.heap.size _ rfl rfl _ B0.out.2 strVl rfl rfl (by simp [Value.oneCell']) ?_)
          intro w9 hb9 hk9
          go_wp2_with (fail)
          refine bodyPost_ret (results_B2 rfl rfl rfl hb9 strVl rfl) rfl ⟨?_, B0.out.1.trans (hk9.oneB B0.out.1.size (Nat.le_refl _))⟩
          rfl
end Go.Proofs.Ytbidnflcbgnckaa
namespace Go.Proofs.Ytbidnflcbgnckaa
open Go.RowKit

/-- A word's cells. -/
abbrev wdA (kind n p : Int) (s : List UInt8) : Array Value := #[.int .i64 kind, .int .i64 n, .int .i64 p, .string (str s)]
theorem strWd : Str Try.prog 65 4 := ⟨⟨_, Try.underlying65, rfl⟩, by kernel_rfl⟩
def fstT (o : Option Fst) (p : Int) (base : Int) : Value := match o with
  | some x => .tuple #[.agg (wdA x.kind x.n p x.s), .int .i64 (base + x.len)]
  | none => .tuple #[.agg (wdA 0 0 0 []), .int .i64 0]
theorem fst_letters {c : UInt8} {r : List UInt8} (h : 97 ≤ c.toNat ∧ c.toNat ≤ 122) : fst (c :: r) = some ⟨1, 0, (c :: r).take (run 97 122 (c :: r)), run 97 122 (c :: r)⟩ := by rw [fst, if_pos h]
theorem fst_digits {c : UInt8} {r : List UInt8} (h : 48 ≤ c.toNat ∧ c.toNat ≤ 57) : fst (c :: r) = (intR ((c :: r).take (run 48 57 (c :: r))) 1099511627776).map fun (v : Nat) => (⟨2, (v : Int), [], run 48 57 (c :: r)⟩ : Fst) := by rw [fst, if_neg (by omega), if_pos h]
theorem intR_34 {c : UInt8} {r : List UInt8} (h : c.toNat = 34) (m : Int) : intR (c :: r) m = none := by
  unfold intR
  split
  · rfl
  · rw [intF, if_neg (by omega)]
theorem valR_quoted {c : UInt8} {r : List UInt8} (h : c.toNat = 34) : valR (c :: r) = match unquote (c :: r) with | some u => if u.length ≤ 24 then some ⟨2, 0, u⟩ else none | none => none := by
  unfold valR
  rw [if_neg (fun e => by injection e with e; rw [e] at h; revert h; decide), intR_34 h] <;> rfl
theorem valR_nil : valR [] = none := by decide
/-- The word in quotes that a text begins with. -/
theorem fst_quoted {c : UInt8} {r : List UInt8} (h : c.toNat = 34) : fst (c :: r) = match valR ((c :: r).take (qt r 1)) with | some v => some ⟨3, 0, v.s, qt r 1⟩ | none => none := by
  have hc : c = 34 := u8_eq h
  rw [fst, if_neg (by omega), if_neg (by omega), if_pos hc]
  by_cases h0 : qt r 1 = 0
  · rw [if_pos h0, h0, List.take_zero, valR_nil]
  · rw [if_neg h0]
    obtain ⟨m, hm⟩ : ∃ m, qt r 1 = m + 1 := ⟨qt r 1 - 1, by omega⟩
    rw [hm, List.take_succ_cons, valR_quoted h]
    cases unquote (c :: List.take m r) with
    | none => rfl
    | some u =>
      simp only
      split <;> rfl
theorem fst_other {c : UInt8} {r : List UInt8} (h1 : ¬ (97 ≤ c.toNat ∧ c.toNat ≤ 122)) (h2 : ¬ (48 ≤ c.toNat ∧ c.toNat ≤ 57)) (h3 : c.toNat ≠ 34) : fst (c :: r) = if sign c then some ⟨4, 0, [c], 1⟩ else none := by
  rw [fst, if_neg h1, if_neg h2, if_neg (fun e => h3 (by rw [e]; rfl))]
set_option maxHeartbeats 4000000 in
set_option maxRecDepth 4000 in
theorem c_lex_first (c : UInt8) (r : List UInt8) (w : World) (hs : r.length ≤ 100000) : Calls Try.prog 24 #[.string (str (c :: r))] w (RetV w (fstT (fst (c :: r)) 0 0)) := by
  have B0 := Lib.hid (At.new w 65 (wdA 0 0 0 []))
  have hc := c.toNat_lt
  by_cases g1 : 97 ≤ c.toNat ∧ c.toNat ≤ 122
  · have hl := run_le 97 122 (c :: r)
    have CR := Lib.hid (fun w' => show Calls Try.prog 45 #[.string (str (c :: r)), .int .u8 97, .int .u8 122] w' (RetV w' (.int .i64 (run 97 122 (c :: r) : Nat))) from c_lex_run (c :: r) 97 122 w' (by simp; omega))
    have F := fst_letters (r := r) g1
    obtain ⟨m, hm⟩ : ∃ m, m = run 97 122 (c :: r) := ⟨_, rfl⟩
    rw [← hm] at CR F hl
    have E := Lib.hid (congrArg (fun o => fstT o 0 0) F)
    have j1 : decide ((97 : Int) ≤ (c.toNat : Int)) = true := by rw [decide_eq_true_iff]; omega
    have j2 : decide ((c.toNat : Int) ≤ 122) = true := by rw [decide_eq_true_iff]; omega
    have hl' : m ≤ r.length + 1 := by simpa using hl
    clear g1 F hm
    go_enter Try.func24, Try.ntmps24
    go_wp2_with (fail)
    refine (CR.out _).mono ?_
    rintro e w1 ⟨rfl, hb1⟩
    replace B0 := Lib.hid (B0.out.step hb1)
    clear hb1
    go_wp2_with (with_reducible refine stS 65 (.tmp 2) (.tmp 26) rfl rfl ?_)
    refine Stop.mk (wsB rfl _ _ _ rfl w.heap.size _ rfl rfl _ B0.out.2 strWd rfl rfl (by simp [Value.oneCell']) ?_)
    intro w9 hb9 hk9
    go_wp2_with (fail)
    refine bodyPost_ret (results_B2 rfl rfl rfl hb9 strWd rfl) rfl ⟨?_, B0.out.1.trans (hk9.oneB B0.out.1.size (Nat.le_refl _))⟩
    rw [E.out]
    simp [fstT]
  · by_cases g2 : 48 ≤ c.toNat ∧ c.toNat ≤ 57
    · have hl := run_le 48 57 (c :: r)
      have CR := Lib.hid (fun w' => show Calls Try.prog 45 #[.string (str (c :: r)), .int .u8 48, .int .u8 57] w' (RetV w' (.int .i64 (run 48 57 (c :: r) : Nat))) from c_lex_run (c :: r) 48 57 w' (by simp; omega))
      have F := fst_digits (r := r) g2
      obtain ⟨m, hm⟩ : ∃ m, m = run 48 57 (c :: r) := ⟨_, rfl⟩
      rw [← hm] at CR F hl
      have j1 : decide ((97 : Int) ≤ (c.toNat : Int)) = false := by rw [decide_eq_false_iff_not]; omega
      have j2 : decide ((48 : Int) ≤ (c.toNat : Int)) = true := by rw [decide_eq_true_iff]; omega
      have j3 : decide ((c.toNat : Int) ≤ 57) = true := by rw [decide_eq_true_iff]; omega
      have hl' : m ≤ r.length + 1 := by simpa using hl
      have CI := Lib.hid (fun w' => c_bits_Int ((c :: r).take m) 1099511627776 w' (by rw [List.length_take]; simp; omega))
      clear g1 g2 hm
      cases hi : intR ((c :: r).take m) 1099511627776 with
      | some v =>
        rw [hi] at F
        rw [(intR_some hi).1, (intR_some hi).2] at CI
        have E := Lib.hid (congrArg (fun o => fstT o 0 0) F)
        clear F hi
        go_enter Try.func24, Try.ntmps24
        go_wp2_with (fail)
        refine (CR.out _).mono ?_
        rintro e w1 ⟨rfl, hb1⟩
        replace B0 := Lib.hid (B0.out.step hb1)
        clear hb1
        go_wp2_with (fail)
        refine (CI.out _).mono ?_
        rintro e w2 ⟨rfl, hb2⟩
        replace B0 := Lib.hid (B0.out.step hb2)
        clear hb2
        go_wp2_with (with_reducible refine stS 65 (.tmp 2) (.tmp 46) rfl rfl ?_)
        refine Stop.mk (wsB rfl _ _ _ rfl w.heap.size _ rfl rfl _ B0.out.2 strWd rfl rfl (by simp [Value.oneCell']) ?_)
        intro w9 hb9 hk9
        go_wp2_with (fail)
        refine bodyPost_ret (results_B2 rfl rfl rfl hb9 strWd rfl) rfl ⟨?_, B0.out.1.trans (hk9.oneB B0.out.1.size (Nat.le_refl _))⟩
        rw [E.out]
        simp [fstT]
      | none =>
        rw [hi] at F
        rw [(intR_none hi).1, (intR_none hi).2] at CI
        have E := Lib.hid (congrArg (fun o => fstT o 0 0) F)
        clear F hi
        go_enter Try.func24, Try.ntmps24
        go_wp2_with (fail)
        refine (CR.out _).mono ?_
        rintro e w1 ⟨rfl, hb1⟩
        replace B0 := Lib.hid (B0.out.step hb1)
        clear hb1
        go_wp2_with (fail)
        refine (CI.out _).mono ?_
        rintro e w2 ⟨rfl, hb2⟩
        replace B0 := Lib.hid (B0.out.step hb2)
        clear hb2
        go_wp2_with (with_reducible refine stS 65 (.tmp 2) (.tmp 76) rfl rfl ?_)
        refine Stop.mk (wsB rfl _ _ _ rfl w.heap.size _ rfl rfl _ B0.out.2 strWd rfl rfl (by simp [Value.oneCell']) ?_)
        intro w9 hb9 hk9
        go_wp2_with (fail)
        refine bodyPost_ret (results_B2 rfl rfl rfl hb9 strWd rfl) rfl ⟨?_, B0.out.1.trans (hk9.oneB B0.out.1.size (Nat.le_refl _))⟩
        rw [E.out]
        simp [fstT]
    · by_cases g3 : c.toNat = 34
      · have hl := qt_le r.length r 1 (Nat.le_refl _)
        have CQ := Lib.hid (fun w' => show Calls Try.prog 47 #[.string (str (c :: r))] w' (RetV w' (.int .i64 (qt r 1 : Nat))) from c_lex_quoted (c :: r) w' (by simp; omega))
        have F := fst_quoted (r := r) g3
        obtain ⟨m, hm⟩ : ∃ m, m = qt r 1 := ⟨_, rfl⟩
        have H0 := Lib.hid (show m = 0 → valR ((c :: r).take m) = none from fun h => by rw [h, List.take_zero]; exact valR_nil)
        rw [← hm] at CQ F hl
        have j1 : decide ((97 : Int) ≤ (c.toNat : Int)) = false := by rw [decide_eq_false_iff_not]; omega
        have j2 : decide ((48 : Int) ≤ (c.toNat : Int)) = false := by rw [decide_eq_false_iff_not]; omega
        have j3 : ((c.toNat : Int) == 34) = true := by rw [beq_iff_eq]; omega
        have CV := Lib.hid (fun w' => c_value_Read ((c :: r).take m) w' (by rw [List.length_take]; simp; omega))
        have hl' : m ≤ r.length + 1 := by omega
        clear g1 g2 g3 hm hl
        cases hv : valR ((c :: r).take m) with
        | some v =>
          rw [hv] at F
          rw [valT_some hv] at CV
          have hm0 : 0 < m := by
            rcases Nat.eq_zero_or_pos m with h | h
            · have := H0.out h; rw [hv] at this; cases this
            · exact h
          have E := Lib.hid (congrArg (fun o => fstT o 0 0) F)
          have k1 : decide ((0 : Int) < (m : Int)) = true := by rw [decide_eq_true_iff]; omega
          clear F hv
          go_enter Try.func24, Try.ntmps24
          go_wp2_with (fail)
          refine (CQ.out _).mono ?_
          rintro e w1 ⟨rfl, hb1⟩
          replace B0 := Lib.hid (B0.out.step hb1)
          clear hb1
          go_wp2_with (fail)
          refine (CV.out _).mono ?_
          rintro e w2 ⟨rfl, hb2⟩
          replace B0 := Lib.hid (B0.out.step hb2)
          clear hb2
          go_wp2_with (with_reducible refine stS 39 (.tmp 10) (.tmp 58) rfl rfl ?_)
          refine Stop.mk (wsB rfl _ _ _ rfl w2.heap.size v.c3 rfl rfl _ (Blk.new _ _ _) strVl rfl rfl (by simp [Value.oneCell']) ?_)
          intro w3 hb3 hk3
          replace B0 := Lib.hid (B0.out.step (fresh_below hk3))
          have q2 := hb3.cell (show v.c3[2]? = _ from rfl)
          have q0 := hb3.cell (show v.c3[0]? = _ from rfl)
          have q1 := hb3.cell (show v.c3[1]? = _ from rfl)
          have hlt := hb3.lt
          clear hb3 hk3
          go_wp2_with (with_reducible refine stS 65 (.tmp 2) (.tmp 67) rfl rfl ?_)
          refine Stop.mk (wsB rfl _ _ _ rfl w.heap.size _ rfl rfl _ B0.out.2 strWd rfl rfl (by simp [Value.oneCell']) ?_)
          intro w9 hb9 hk9
          go_wp2_with (fail)
          refine bodyPost_ret (results_B2 rfl rfl rfl hb9 strWd rfl) rfl ⟨?_, B0.out.1.trans (hk9.oneB B0.out.1.size (Nat.le_refl _))⟩
          rw [E.out]
          simp [fstT]
        | none =>
          rw [hv] at F
          rw [valT_none hv] at CV
          have E := Lib.hid (congrArg (fun o => fstT o 0 0) F)
          clear F hv
          go_enter Try.func24, Try.ntmps24
          go_wp2_with (fail)
          refine (CQ.out _).mono ?_
          rintro e w1 ⟨rfl, hb1⟩
          replace B0 := Lib.hid (B0.out.step hb1)
          clear hb1
          go_wp2_with (fail)
          refine (CV.out _).mono ?_
          rintro e w2 ⟨rfl, hb2⟩
          replace B0 := Lib.hid (B0.out.step hb2)
          clear hb2
          go_wp2_with (with_reducible refine stS 39 (.tmp 10) (.tmp 58) rfl rfl ?_)
          refine Stop.mk (wsB rfl _ _ _ rfl w2.heap.size vz.c3 rfl rfl _ (Blk.new _ _ _) strVl rfl rfl (by simp [Value.oneCell']) ?_)
          intro w3 hb3 hk3
          replace B0 := Lib.hid (B0.out.step (fresh_below hk3))
          clear hb3 hk3
          go_wp2_with (with_reducible refine stS 65 (.tmp 2) (.tmp 76) rfl rfl ?_)
          refine Stop.mk (wsB rfl _ _ _ rfl w.heap.size _ rfl rfl _ B0.out.2 strWd rfl rfl (by simp [Value.oneCell']) ?_)
          intro w9 hb9 hk9
          go_wp2_with (fail)
          refine bodyPost_ret (results_B2 rfl rfl rfl hb9 strWd rfl) rfl ⟨?_, B0.out.1.trans (hk9.oneB B0.out.1.size (Nat.le_refl _))⟩
          rw [E.out]
          simp [fstT]
      · have F := fst_other (r := r) g1 g2 g3
        have j0 : ((c.toNat : Int) == 34) = false := by rw [beq_eq_false_iff_ne]; omega
        have CX := Lib.hid (fun w' => c_strings_IndexByte (str [40, 41, 61, 60, 62, 126]) c.toNat w')
        have SI := sign_index c
        obtain ⟨ix, hix⟩ : ∃ x, x = Lib.indexByte [40, 41, 61, 60, 62, 126] c := ⟨_, rfl⟩
        have hX : Lib.indexByte (str [40, 41, 61, 60, 62, 126]).data.toList (c.toNat : Int).toNat.toUInt8 = ix := by
          rw [hix]
          show Lib.indexByte [40, 41, 61, 60, 62, 126] (UInt8.ofNat c.toNat) = _
          rw [UInt8.ofNat_toNat]
        rw [hX] at CX
        rw [← hix] at SI
        have hcs : c.toNat < 48 ∨ (57 < c.toNat ∧ c.toNat < 97) ∨ 122 < c.toNat := by omega
        clear hX hix g1 g2 g3
        cases hsg : sign c
        case true =>
          rw [hsg] at F SI
          have E := Lib.hid (congrArg (fun o => fstT o 0 0) F)
          clear F hsg
          rcases hcs with g | ⟨g, g'⟩ | g
          · have j1 : decide ((97 : Int) ≤ (c.toNat : Int)) = false := by rw [decide_eq_false_iff_not]; omega
            have j2 : decide ((48 : Int) ≤ (c.toNat : Int)) = false := by rw [decide_eq_false_iff_not]; omega
            clear g
            go_enter Try.func24, Try.ntmps24
            go_wp2_with (fail)
            refine (CX.out _).mono ?_
            rintro e w1 ⟨rfl, rfl⟩
            go_wp2_with (with_reducible refine stS 65 (.tmp 2) (.tmp 75) rfl rfl ?_)
            refine Stop.mk (wsB rfl _ _ _ rfl w.heap.size _ rfl rfl _ B0.out.2 strWd rfl rfl (by simp [Value.oneCell']) ?_)
            intro w9 hb9 hk9
            go_wp2_with (fail)
            refine bodyPost_ret (results_B2 rfl rfl rfl hb9 strWd rfl) rfl ⟨?_, B0.out.1.trans (hk9.oneB B0.out.1.size (Nat.le_refl _))⟩
            rw [E.out]
            simp [fstT]
          · have j1 : decide ((97 : Int) ≤ (c.toNat : Int)) = false := by rw [decide_eq_false_iff_not]; omega
            have j2 : decide ((48 : Int) ≤ (c.toNat : Int)) = true := by rw [decide_eq_true_iff]; omega
            have j3 : decide ((c.toNat : Int) ≤ 57) = false := by rw [decide_eq_false_iff_not]; omega
            clear g g'
            go_enter Try.func24, Try.ntmps24
            go_wp2_with (fail)
            refine (CX.out _).mono ?_
            rintro e w1 ⟨rfl, rfl⟩
            go_wp2_with (with_reducible refine stS 65 (.tmp 2) (.tmp 75) rfl rfl ?_)
            refine Stop.mk (wsB rfl _ _ _ rfl w.heap.size _ rfl rfl _ B0.out.2 strWd rfl rfl (by simp [Value.oneCell']) ?_)
            intro w9 hb9 hk9
            go_wp2_with (fail)
            refine bodyPost_ret (results_B2 rfl rfl rfl hb9 strWd rfl) rfl ⟨?_, B0.out.1.trans (hk9.oneB B0.out.1.size (Nat.le_refl _))⟩
            rw [E.out]
            simp [fstT]
          · have j1 : decide ((97 : Int) ≤ (c.toNat : Int)) = true := by rw [decide_eq_true_iff]; omega
            have j1' : decide ((c.toNat : Int) ≤ 122) = false := by rw [decide_eq_false_iff_not]; omega
            have j2 : decide ((48 : Int) ≤ (c.toNat : Int)) = true := by rw [decide_eq_true_iff]; omega
            have j3 : decide ((c.toNat : Int) ≤ 57) = false := by rw [decide_eq_false_iff_not]; omega
            clear g
            go_enter Try.func24, Try.ntmps24
            go_wp2_with (fail)
            refine (CX.out _).mono ?_
            rintro e w1 ⟨rfl, rfl⟩
            go_wp2_with (with_reducible refine stS 65 (.tmp 2) (.tmp 75) rfl rfl ?_)
            refine Stop.mk (wsB rfl _ _ _ rfl w.heap.size _ rfl rfl _ B0.out.2 strWd rfl rfl (by simp [Value.oneCell']) ?_)
            intro w9 hb9 hk9
            go_wp2_with (fail)
            refine bodyPost_ret (results_B2 rfl rfl rfl hb9 strWd rfl) rfl ⟨?_, B0.out.1.trans (hk9.oneB B0.out.1.size (Nat.le_refl _))⟩
            rw [E.out]
            simp [fstT]
        case false =>
          rw [hsg] at F SI
          have E := Lib.hid (congrArg (fun o => fstT o 0 0) F)
          clear F hsg
          rcases hcs with g | ⟨g, g'⟩ | g
          · have j1 : decide ((97 : Int) ≤ (c.toNat : Int)) = false := by rw [decide_eq_false_iff_not]; omega
            have j2 : decide ((48 : Int) ≤ (c.toNat : Int)) = false := by rw [decide_eq_false_iff_not]; omega
            clear g
            go_enter Try.func24, Try.ntmps24
            go_wp2_with (fail)
            refine (CX.out _).mono ?_
            rintro e w1 ⟨rfl, rfl⟩
            go_wp2_with (with_reducible refine stS 65 (.tmp 2) (.tmp 76) rfl rfl ?_)
            refine Stop.mk (wsB rfl _ _ _ rfl w.heap.size _ rfl rfl _ B0.out.2 strWd rfl rfl (by simp [Value.oneCell']) ?_)
            intro w9 hb9 hk9
            go_wp2_with (fail)
            refine bodyPost_ret (results_B2 rfl rfl rfl hb9 strWd rfl) rfl ⟨?_, B0.out.1.trans (hk9.oneB B0.out.1.size (Nat.le_refl _))⟩
            rw [E.out]
            simp [fstT]
          · have j1 : decide ((97 : Int) ≤ (c.toNat : Int)) = false := by rw [decide_eq_false_iff_not]; omega
            have j2 : decide ((48 : Int) ≤ (c.toNat : Int)) = true := by rw [decide_eq_true_iff]; omega
            have j3 : decide ((c.toNat : Int) ≤ 57) = false := by rw [decide_eq_false_iff_not]; omega
            clear g g'
            go_enter Try.func24, Try.ntmps24
            go_wp2_with (fail)
            refine (CX.out _).mono ?_
            rintro e w1 ⟨rfl, rfl⟩
            go_wp2_with (with_reducible refine stS 65 (.tmp 2) (.tmp 76) rfl rfl ?_)
            refine Stop.mk (wsB rfl _ _ _ rfl w.heap.size _ rfl rfl _ B0.out.2 strWd rfl rfl (by simp [Value.oneCell']) ?_)
            intro w9 hb9 hk9
            go_wp2_with (fail)
            refine bodyPost_ret (results_B2 rfl rfl rfl hb9 strWd rfl) rfl ⟨?_, B0.out.1.trans (hk9.oneB B0.out.1.size (Nat.le_refl _))⟩
            rw [E.out]
            simp [fstT]
          · have j1 : decide ((97 : Int) ≤ (c.toNat : Int)) = true := by rw [decide_eq_true_iff]; omega
            have j1' : decide ((c.toNat : Int) ≤ 122) = false := by rw [decide_eq_false_iff_not]; omega
            have j2 : decide ((48 : Int) ≤ (c.toNat : Int)) = true := by rw [decide_eq_true_iff]; omega
            have j3 : decide ((c.toNat : Int) ≤ 57) = false := by rw [decide_eq_false_iff_not]; omega
            clear g
            go_enter Try.func24, Try.ntmps24
            go_wp2_with (fail)
            refine (CX.out _).mono ?_
            rintro e w1 ⟨rfl, rfl⟩
            go_wp2_with (with_reducible refine stS 65 (.tmp 2) (.tmp 76) rfl rfl ?_)
            refine Stop.mk (wsB rfl _ _ _ rfl w.heap.size _ rfl rfl _ B0.out.2 strWd rfl rfl (by simp [Value.oneCell']) ?_)
            intro w9 hb9 hk9
            go_wp2_with (fail)
            refine bodyPost_ret (results_B2 rfl rfl rfl hb9 strWd rfl) rfl ⟨?_, B0.out.1.trans (hk9.oneB B0.out.1.size (Nat.le_refl _))⟩
            rw [E.out]
            simp [fstT]
end Go.Proofs.Ytbidnflcbgnckaa
namespace Go.Proofs.Ytbidnflcbgnckaa
open Go.RowKit

/-- Blocks from number B on, each known whole, no two the same. -/
def Blks (w : World) (B : Nat) : List (Nat × Array Value) → Prop
  | [] => True
  | x :: r => (Blk w x.1 x.2 ∧ B ≤ x.1 ∧ ∀ y ∈ r, y.1 ≠ x.1) ∧ Blks w B r
section
variable {w w' : World} {B : Nat} {l : List (Nat × Array Value)}
theorem Blks.kept {q : Option Nat} (h : Blks w B l) (k : Kept q w.heap.size w w') (hq : ∀ g, q = some g → g < B) : Blks w' B l := by
  induction l with
  | nil => trivial
  | cons x r ih =>
    obtain ⟨⟨h1, h2, h3⟩, h4⟩ := h
    exact ⟨⟨h1.kept k h1.lt (fun e => by have := hq _ e; omega), h2, h3⟩, ih h4⟩
theorem Blks.far {q : Nat} (h : Blks w B l) (k : Kept (some q) w.heap.size w w') (hq : ∀ y ∈ l, y.1 ≠ q) : Blks w' B l := by
  induction l with
  | nil => trivial
  | cons x r ih =>
    obtain ⟨⟨h1, h2, h3⟩, h4⟩ := h
    exact ⟨⟨h1.kept k h1.lt (fun e => by injection e with e; exact hq x (List.mem_cons_self ..) e.symm), h2, h3⟩, ih h4 (fun y hy => hq y (List.mem_cons_of_mem _ hy))⟩
theorem Blks.lt (h : Blks w B l) : ∀ y ∈ l, y.1 < w.heap.size := by
  induction l with
  | nil => intro y hy; cases hy
  | cons x r ih =>
    intro y hy
    rcases List.mem_cons.1 hy with rfl | hy
    · exact h.1.1.lt
    · exact ih h.2 y hy
end
theorem kept_set (w : World) (g off : Nat) (v : Value) : Kept (some g) w.heap.size w (w.setCell ⟨g, off, none⟩ v) := (Kept.refl (some g) _ w).setCell (q := ⟨g, off, none⟩) (.inr rfl) v
/-- The program's reader, and blocks of the call's own. -/
structure EnvP (p : Option Nat) (S : Rd) (w w' : World) (l : List (Nat × Array Value)) : Prop where
  low : ∀ g, p = some g → g < w.heap.size
  kept : Kept p w.heap.size w w'
  rd : RdP w' p S
  blks : Blks w' w.heap.size l
section
variable {p : Option Nat} {S S' : Rd} {w w1 w2 : World} {l : List (Nat × Array Value)} {g g0 : Nat} {cs c0 cs' : Array Value}
theorem EnvP.start (r : RdP w p S) : EnvP p S w w [] := ⟨fun _ hg => r.lt hg, Kept.refl _ _ _, r, trivial⟩
theorem EnvP.size (h : EnvP p S w w1 l) : w.heap.size ≤ w1.heap.size := h.kept.size
theorem EnvP.call (h : EnvP p S w w1 l) (r : RdP w2 p S') (k : Kept p w1.heap.size w1 w2) : EnvP p S' w w2 l :=
  ⟨h.low, h.kept.then_kept k h.size, r, h.blks.kept k h.low⟩
theorem EnvP.below (h : EnvP p S w w1 l) (k : Below w1.heap.size w1 w2) : EnvP p S w w2 l :=
  ⟨h.low, h.kept.then_below k h.size, h.rd.below k, h.blks.kept (q := none) (.of_below k) (fun _ e => by cases e)⟩
theorem EnvP.alloc (h : EnvP p S w w1 l) (t : TypeId) (cs : Array Value) : EnvP p S w (w1.alloc (.cells cs t)) ((w1.heap.size, cs) :: l) := by
  have h' := h.below ((Below.refl _ _).alloc (Nat.le_refl _) (.cells cs t))
  exact ⟨h.low, h'.kept, h'.rd, ⟨Blk.new _ _ _, h.size, fun y hy => by have := h.blks.lt y hy; simp only; omega⟩, h'.blks⟩
theorem EnvP.own (h : EnvP p S w w1 l) (hg : w.heap.size ≤ g) (k : Kept (some g) w1.heap.size w1 w2) : Kept p w.heap.size w w2 ∧ RdP w2 p S :=
  ⟨h.kept.trans (k.one h.size (.inl hg)), h.rd.kept k (fun a b ha hb => by injection hb with hb; have := h.low a ha; omega)⟩
theorem EnvP.b0 (h : EnvP p S w w1 ((g, cs) :: l)) : Blk w1 g cs := h.blks.1.1
theorem EnvP.b1 (h : EnvP p S w w1 ((g0, c0) :: (g, cs) :: l)) : Blk w1 g cs := h.blks.2.1.1
theorem EnvP.as (h : EnvP p S w w1 ((g, cs) :: l)) (e : cs = cs') : EnvP p S w w1 ((g, cs') :: l) := e ▸ h
theorem EnvP.state (h : EnvP p S w w1 l) (e : S = S') : EnvP p S' w w1 l := e ▸ h
end
/-- The reference's reader, and blocks of the call's own. -/
structure EnvR (p : Nat) (S : Rd) (w w' : World) (l : List (Nat × Array Value)) : Prop where
  low : p < w.heap.size
  kept : Kept (some p) w.heap.size w w'
  rd : RdR w' p S
  blks : Blks w' w.heap.size l
section
variable {p : Nat} {S S' : Rd} {w w1 w2 : World} {l : List (Nat × Array Value)} {g g0 : Nat} {cs c0 cs' : Array Value}
theorem EnvR.start (r : RdR w p S) : EnvR p S w w [] := ⟨r.lt, Kept.refl _ _ _, r, trivial⟩
theorem EnvR.size (h : EnvR p S w w1 l) : w.heap.size ≤ w1.heap.size := h.kept.size
theorem EnvR.call (h : EnvR p S w w1 l) (r : RdR w2 p S') (k : Kept (some p) w1.heap.size w1 w2) : EnvR p S' w w2 l :=
  ⟨h.low, h.kept.then_kept k h.size, r, h.blks.kept k (fun g e => by injection e with e; have := h.low; omega)⟩
theorem EnvR.below (h : EnvR p S w w1 l) (k : Below w1.heap.size w1 w2) : EnvR p S w w2 l :=
  ⟨h.low, h.kept.then_below k h.size, h.rd.below k, h.blks.kept (q := none) (.of_below k) (fun _ e => by cases e)⟩
theorem EnvR.alloc (h : EnvR p S w w1 l) (t : TypeId) (cs : Array Value) : EnvR p S w (w1.alloc (.cells cs t)) ((w1.heap.size, cs) :: l) := by
  have h' := h.below ((Below.refl _ _).alloc (Nat.le_refl _) (.cells cs t))
  exact ⟨h.low, h'.kept, h'.rd, ⟨Blk.new _ _ _, h.size, fun y hy => by have := h.blks.lt y hy; simp only; omega⟩, h'.blks⟩
theorem EnvR.own (h : EnvR p S w w1 l) (hg : w.heap.size ≤ g) (k : Kept (some g) w1.heap.size w1 w2) : Kept (some p) w.heap.size w w2 ∧ RdR w2 p S :=
  ⟨h.kept.trans (k.one h.size (.inl hg)), h.rd.kept k (fun e => by injection e with e; have := h.low; omega)⟩
theorem EnvR.b0 (h : EnvR p S w w1 ((g, cs) :: l)) : Blk w1 g cs := h.blks.1.1
theorem EnvR.b1 (h : EnvR p S w w1 ((g0, c0) :: (g, cs) :: l)) : Blk w1 g cs := h.blks.2.1.1
theorem EnvR.as (h : EnvR p S w w1 ((g, cs) :: l)) (e : cs = cs') : EnvR p S w w1 ((g, cs') :: l) := e ▸ h
theorem EnvR.state (h : EnvR p S w w1 l) (e : S = S') : EnvR p S' w w1 l := e ▸ h
end
end Go.Proofs.Ytbidnflcbgnckaa
namespace Go.Proofs.Ytbidnflcbgnckaa
open Go.RowKit

set_option maxHeartbeats 400000 in
theorem c_value_Check (x : Val) (w : World) (hs : x.s.length ≤ 9223372036854775807) : Calls Try.prog 55 #[x.val] w (RetV w (.bool x.ok)) := by
  unfold Val.val
  go_enter Try.func55, Try.ntmps55
  go_wp2
  all_goals (go_ret; refine RetV.bool ?_ (by repeat (first | exact Below.refl _ _ | refine Below.drew ?_ | refine Below.alloc ?_ (by first | omega | (simp; done) | (simp; omega)) _ | refine Below.setCell ?_ (by first | omega | (simp; done) | (simp; omega)) _ | refine Below.trans ?_ (Below.mono (by assumption) (by first | omega | (simp; done) | (simp; omega))))); simp_all [Val.ok]; try omega)
set_option maxHeartbeats 400000 in
theorem c_ref04_Check (x : Val) (w : World) (hs : x.s.length ≤ 9223372036854775807) : Calls Try.prog 42 #[x.val] w (RetV w (.bool x.ok)) := by
  unfold Val.val
  go_enter Try.func42, Try.ntmps42
  go_wp2
  all_goals (go_ret; refine RetV.bool ?_ (by repeat (first | exact Below.refl _ _ | refine Below.drew ?_ | refine Below.alloc ?_ (by first | omega | (simp; done) | (simp; omega)) _ | refine Below.setCell ?_ (by first | omega | (simp; done) | (simp; omega)) _ | refine Below.trans ?_ (Below.mono (by assumption) (by first | omega | (simp; done) | (simp; omega))))); simp_all [Val.ok]; try omega)
theorem Val.ok_kind {x : Val} (h : x.ok = true) : x.kind = 0 ∨ x.kind = 1 ∨ x.kind = 2 := by
  unfold Val.ok at h
  by_cases h0 : x.kind = 0
  · exact .inl h0
  · by_cases h1 : x.kind = 1
    · exact .inr (.inl h1)
    · by_cases h2 : x.kind = 2
      · exact .inr (.inr h2)
      · simp [h0, h1, h2] at h
theorem Val.ok_cases (x : Val) : (x.ok = false ∧ x.none = false) ∨ (x.ok = true ∧ x.none = true ∧ x.kind = 0) ∨ (x.ok = true ∧ x.none = false ∧ x.kind = 1) ∨ (x.ok = true ∧ x.none = false ∧ x.kind = 2) := by
  cases h : x.ok
  · simp only [true_and, Bool.false_eq_true, false_and, or_false]
    cases hn : x.none
    · rfl
    · unfold Val.none at hn; unfold Val.ok at h; simp_all
  · rcases Val.ok_kind h with hk | hk | hk <;> simp [Val.none_kind h, hk]
theorem Val.none_ok {x : Val} (h : x.none = true) : x.ok = true := by
  rcases Val.ok_cases x with ⟨h1, h2⟩ | ⟨h1, _⟩ | ⟨h1, _⟩ | ⟨h1, _⟩
  · rw [h] at h2; cases h2
  all_goals exact h1
end Go.Proofs.Ytbidnflcbgnckaa
