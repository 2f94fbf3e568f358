/-
  Lemmas (walks and plain laws), in one text.
-/
import Derived.Test.YtkofjkadmknmjaaDoorMb6
import Derived.Test.YtkofjkadmknmjaaDoorRows
import Derived.WalkKit
import Derived.WalkSpells
import Derived.WalkLawsBesides
import Derived.Lib.Hide
import Derived.Deep.QuietTactic
import Derived.BigQuiet
import Derived.Maps.AppendAt
import Derived.WalkSmall
import Derived.ProofKit
import Derived.OpenShut
import Derived.JoinedCond
import Derived.Deep.Slices
import Derived.Deep.Fields
import Derived.Carry
import Derived.HandedShaped
import Derived.Shelf.Small.Wraps
import Derived.Shelf.Utf8.RuneCount
import Derived.Shelf.Strconv.Itoa0
import Derived.Shelf.Strconv.Itoa1
import Derived.Shelf.LaysM
import Derived.Shelf.Strconv.Itoa2
import Derived.Shelf.Strconv.Itoa3
import Derived.Shelf.Strings.Search1
import Derived.Shelf.Strings.Search2
import Derived.Shelf.Strings.Search3
import Derived.Shelf.Strings.Count
import Derived.Shelf.Strings.Shaped
import Derived.Shelf.Strings.Prefix
import Derived.Shelf.Strings.Split
import Derived.Shelf.Strings.SplitShaped
import Derived.Shelf.Unicode.DecodeSlow
import Derived.Test.YtkofjkadmknmjaaDoorProg
import Derived.Deep.AppendSrc
import Derived.Lib.AppendStr
import Derived.Laws.BytesArg
import Derived.Lib.AppendIntMem
import Derived.Lib.ItoaLen
import Derived.Lib.TrailingZeros
import Derived.Lib.SplitLaws
import Derived.Lib.ItoaNum
import Derived.Shelf.Strings.PiecesUse
import Derived.Shelf.Spec.TrailingZeros
import Derived.RangeFuncNested
import Derived.RangeFuncBound
import Derived.RangeFuncCalls
import Derived.RangeFuncLeaves
import Derived.Shelf.Abstract
import Derived.Shelf.RegionOpen
import Derived.OwnWalkIn
import Derived.TacticsInMore
import Derived.LoopNIn
import Derived.LoopIn
import Derived.Test.YtkofjkadmknmjaaDoorTie
import Derived.Lib.LaidTab
import Derived.LaidMore
import Derived.Lay
import Derived.Stop.LaidErr
import Derived.SevenTiedAt
import Derived.Test.YtkofjkadmknmjaaDoorCards
import Derived.StillTail
import Derived.OrdersIn
import Derived.ControlIn
import Derived.Lib.BitFns
import Derived.Deep.CutBlock
import Derived.Deep.DeepCutAuto
import Derived.Laws.IdiomStrings
import Derived.Outline
import Derived.IntWalk
import Derived.Lib.Tables
import Derived.Lib.Strings
namespace Go.Proofs.YtkofjkadmknmjaaDoor
open Go.RowKit

theorem bitN_out {n : Int} (h : ¬ (0 ≤ n ∧ n ≤ 31)) : bitN n = 0 := by unfold bitN; rw [if_neg h]
/-! The program's. -/
set_option maxHeartbeats 400000 in
theorem c_bits_bitA (n : Int) (w : World) : Calls Tryd.prog 78 #[.int .i64 n] w (RetV w (.int .u32 (bitN n))) := by
  by_cases h : 0 ≤ n ∧ n ≤ 31
  · obtain ⟨k, rfl⟩ : ∃ k : Nat, n = k := ⟨n.toNat, by omega⟩
    exact c_bits_bit k w (by omega)
  · rw [bitN_out h]
    by_cases h0 : n < 0
    · have d0 : decide (n < 0) = true := by simpa using h0
      clear h h0
      go_enter Tryd.func78, Tryd.ntmps78
      go_wp2_with (fail)
      go_ret
      exact RetV.int rfl (by repeat (first | exact Below.refl _ _ | refine Below.drew ?_ | refine Below.alloc ?_ (by first | omega | (simp; done) | (simp; omega)) _ | refine Below.setCell ?_ (by first | omega | (simp; done) | (simp; omega)) _ | refine Below.trans ?_ (Below.mono (by assumption) (by first | omega | (simp; done) | (simp; omega)))))
    · have d0 : decide (n < 0) = false := by simpa using h0
      have d1 : decide (31 < n) = true := by simp; omega
      clear h h0
      go_enter Tryd.func78, Tryd.ntmps78
      go_wp2_with (fail)
      go_ret
      exact RetV.int rfl (by repeat (first | exact Below.refl _ _ | refine Below.drew ?_ | refine Below.alloc ?_ (by first | omega | (simp; done) | (simp; omega)) _ | refine Below.setCell ?_ (by first | omega | (simp; done) | (simp; omega)) _ | refine Below.trans ?_ (Below.mono (by assumption) (by first | omega | (simp; done) | (simp; omega)))))
set_option maxHeartbeats 400000 in
theorem c_bits_OfA (l : List Int) (A : Option Addr) (c : Nat) (w : World) (h : InI w A c l) :
    Calls Tryd.prog 47 #[.slice A l.length c] w (RetV w (.int .u32 (maskOf l))) := by
  have hL := h.1
  have hC := h.2.1
  have hS := h.2.2.1
  have hm0 : maskOf (l.take 0) = 0 := rfl
  go_enter Tryd.func47, Tryd.ntmps47
  go_wp2
  go_loopw [3, 5, 8] (fun s _ i wr => ∃ k : Nat, k ≤ l.length ∧ i = .int .i64 k ∧ s = .int .u32 (maskOf (l.take k)) ∧ Below w.heap.size w wr) (fun _ _ i _ => l.length - (intOf i).toNat)
  case atStart => exact ⟨0, Nat.zero_le _, rfl, rfl, (by repeat (first | exact Below.refl _ _ | refine Below.drew ?_ | refine Below.alloc ?_ (by first | omega | (simp; done) | (simp; omega)) _ | refine Below.setCell ?_ (by first | omega | (simp; done) | (simp; omega)) _ | refine Below.trans ?_ (Below.mono (by assumption) (by first | omega | (simp; done) | (simp; omega)))))⟩
  case round =>
    obtain ⟨k, hk, rfl, rfl, hb⟩ := hrel
    by_cases hlt : k < l.length
    · obtain ⟨b, off, rfl, hbb, hrow⟩ := h.at (i := k) hlt
      have hc0 := hrow.belowB hb hbb k hlt 0 _ rfl
      obtain ⟨n, hnn⟩ : ∃ n : Int, l[k] = n := ⟨_, rfl⟩
      have hb1 := maskOf_lt (l.take k)
      have hb2 := bitN_lt n
      have ho := or_u32 _ _ hb1 hb2
      have H := Lib.hid (show maskOf (l.take (k + 1)) = maskOf (l.take k) ||| bitN n by
        rw [List.take_succ_eq_append_getElem hlt, maskOf_snoc, hnn])
      simp [hnn] at hc0
      clear hnn hrow h
      go_wp2_with (go_at_call 78; refine (c_bits_bitA n _).mono ?_; rintro e w1 ⟨rfl, hb3⟩)
      go_roundw
      case rel => exact ⟨k + 1, by omega, by go_num, by rw [H.out], hb.trans (hb3.mono hb.size)⟩
      case measure => simp [intOf]; omega
    · have : k = l.length := by omega
      subst this
      have H := Lib.hid (List.take_of_length_le (Nat.le_refl l.length))
      go_wp2
      go_ret
      exact RetV.of (by rw [H.out]; rfl) hb
/-! The reference's. -/
end Go.Proofs.YtkofjkadmknmjaaDoor
namespace Go.Proofs.YtkofjkadmknmjaaDoor
open Go.RowKit

/-- The bytes of a text, in a block of the call's own. -/
structure Laid (w w' : World) (A : Option Addr) (c : Nat) (l : List UInt8) : Prop where
  pos : A = some ⟨w.heap.size, 0, none⟩
  below : Below w.heap.size w w'
  size : w'.heap.size = w.heap.size + 1
  reads : InB w' A c l
theorem run_str_bytes {P : Program} (w : World) {src dst e : TypeId} (hs : P.underlying src = some .string) (hd : P.underlying dst = some (.slice e)) (he : P.underlying e = some (.int .u8)) (l : List UInt8) (hl : l.length ≤ 4294967296) :
    ∃ A c w', (convert src dst (.string (str l))).run P w = .ok (.slice A l.length c) w' ∧ Laid w w' A c l := by
  have h := run_bytes_of_string (P := P) w src dst e (str l) hs hd he
  have hge := grownCap_ge w (str l).size 0 e
  have hcm := grownCap_le_maxLen w (str l).size 0 e (by rw [str_size]; unfold maxLen; omega)
  rw [str_size] at h hge hcm
  refine ⟨_, _, _, h, rfl, ((Below.refl _ _).drew).alloc (Nat.le_refl _) _, World.size_alloc _ _, hge, by unfold maxLen at hcm; omega, hl, .inr ⟨w.heap.size, 0, rfl, by rw [World.size_alloc]; exact Nat.lt_succ_self _, ?_⟩⟩
  intro i hi j u hu
  have hj : j < 1 := (List.getElem?_eq_some_iff.1 hu).1
  have h0 : j = 0 := by omega
  subst h0
  have hb := bytesRow_at (str l) (grownCap w l.length 0 e) i (by show i < l.toArray.size; simpa using hi)
  have hc := cell_of_row (w.drew.alloc (.cells (bytesRow (str l) (grownCap w l.length 0 e)) e ((bytesRow (str l) (grownCap w l.length 0 e)).size, (bytesRow (str l) (grownCap w l.length 0 e)).size + 1))) w.heap.size (0 + i * 1 + 0) _ _ _ (heap_alloc_new w.drew _)
  rw [hc, show 0 + i * 1 + 0 = i by omega, hb]
  simp only [bc, List.getElem?_cons_zero, Option.some.injEq] at hu
  rw [← hu]
  rfl
theorem wpList_strbytes {P : Program} {w : World} {ops : Array Oper} {rest : List Oper} {o : Oper} {a : Act} {Q : Exit → Act → World → Prop} (hgd : o.guard = none) (src dst : TypeId) (x : Operand) (ho : o.op = .convert src dst x)
    {e : TypeId} (hs : P.underlying src = some .string) (hd : P.underlying dst = some (.slice e)) (he : P.underlying e = some (.int .u8)) (l : List UInt8) (hx : a.eval x = .string (str l)) (hl : l.length ≤ 4294967296)
    (h : ∀ A c w', Laid w w' A c l → wpList P ops Q rest (a.put o.dst (.slice A l.length c)) w') : wpList P ops Q (o :: rest) a w := by
  refine wpList_plain hgd fun K hK => ?_
  obtain ⟨A, c, w', hrun, hl'⟩ := run_str_bytes (P := P) w hs hd he l hl
  unfold Oper.wp execOp
  simp only [ho, hx, hrun, Sem.run_bind, Sem.run_pure, Result.andThen_ok]
  exact hK _ _ (h A c w' hl')
theorem stop_conv {P : Program} {w : World} {ops : Array Oper} {rest : List Oper} {o : Oper} {a : Act} {Q : Exit → Act → World → Prop} (src dst : TypeId) (x : Operand) (_ : o.guard = none) (_ : o.op = .convert src dst x) (h : Stop (wpList P ops Q (o :: rest) a w)) : wpList P ops Q (o :: rest) a w := h
end Go.Proofs.YtkofjkadmknmjaaDoor
namespace Go.Proofs.YtkofjkadmknmjaaDoor
open Go.RowKit

def intV (s : List UInt8) (most : Int) : Int := match intR s most with | some n => n | none => 0
def intOk (s : List UInt8) (most : Int) : Bool := (intR s most).isSome
theorem intR_none {s : List UInt8} {most : Int} (h : intR s most = none) : intV s most = 0 ∧ intOk s most = false := by unfold intV intOk; rw [h]; exact ⟨rfl, rfl⟩
theorem intR_some {s : List UInt8} {most : Int} {n : Nat} (h : intR s most = some n) : intV s most = n ∧ intOk s most = true := by unfold intV intOk; rw [h]; exact ⟨rfl, rfl⟩
theorem intF_lt : ∀ (s : List UInt8) (n m : Nat), intF n s = some m → m < (n + 1) * 10 ^ s.length
  | [], n, m, h => by simp only [intF, Option.some.injEq] at h; subst h; simp
  | c :: s, n, m, h => by
    rw [intF] at h
    split at h
    · have := intF_lt s _ m h
      have e : (10 * n + (c.toNat - 48) + 1) * 10 ^ s.length ≤ (n + 1) * 10 * 10 ^ s.length := Nat.mul_le_mul_right _ (by omega)
      rw [List.length_cons, Nat.pow_succ]
      rw [Nat.mul_comm (10 ^ s.length) 10, ← Nat.mul_assoc]; omega
    · cases h
/-- How far a number's text has been read. -/
def IntAt (s : List UInt8) (k n : Nat) : Prop := intF 0 s = intF n (s.drop k) ∧ n < 10 ^ k
theorem IntAt.start (s : List UInt8) : IntAt s 0 0 := ⟨rfl, by simp⟩
theorem IntAt.next {s : List UInt8} {k n : Nat} (h : IntAt s k n) (hk : k < s.length) (h1 : 48 ≤ s[k].toNat) (h2 : s[k].toNat ≤ 57) : IntAt s (k + 1) (10 * n + (s[k].toNat - 48)) := by
  refine ⟨?_, ?_⟩
  · rw [h.1, List.drop_eq_getElem_cons hk, intF, if_pos ⟨h1, h2⟩]
  · have := h.2
    rw [Nat.pow_succ]; omega
theorem IntAt.bad {s : List UInt8} {k n : Nat} (h : IntAt s k n) (hk : k < s.length) (h1 : ¬ (48 ≤ s[k].toNat ∧ s[k].toNat ≤ 57)) : intF 0 s = none := by
  rw [h.1, List.drop_eq_getElem_cons hk, intF, if_neg h1]
theorem IntAt.done {s : List UInt8} {n : Nat} (h : IntAt s s.length n) : intF 0 s = some n := by
  rw [h.1, List.drop_length, intF]
theorem head_zero {s : List UInt8} (h : 0 < s.length) : (s.head? = some 48) = (s[0].toNat = 48) := by
  cases s with
  | nil => simp at h
  | cons c s =>
    simp only [List.head?_cons, Option.some.injEq, List.getElem_cons_zero, eq_iff_iff]
    constructor
    · intro h; subst h; rfl
    · intro h; have : c = UInt8.ofNat c.toNat := by simp
      rw [this, h]; rfl
theorem str_beq_nil {s : List UInt8} (h : s ≠ []) : s.isEmpty = false := by cases s <;> simp_all

set_option maxHeartbeats 1000000 in
set_option maxRecDepth 4000 in
theorem c_bits_Int (s : List UInt8) (most : Int) (w : World) (hs : s.length ≤ 4294967296) : Calls Tryd.prog 31 #[.string (str s), .int .i64 most] w (RetV w (.tuple #[.int .i64 (intV s most), .bool (intOk s most)])) := by
  by_cases hb : s = [] ∨ 13 < s.length ∨ (1 < s.length ∧ s.head? = some 48)
  · have hn : intR s most = none := by unfold intR; rw [if_pos hb]
    rw [(intR_none hn).1, (intR_none hn).2]
    clear hn
    rcases hb with rfl | hb | ⟨h1, h2⟩
    · go_enter Tryd.func31, Tryd.ntmps31
      go_wp2_with (fail)
      go_ret2
      exact RetV.of rfl (by repeat (first | exact Below.refl _ _ | refine Below.drew ?_ | refine Below.alloc ?_ (by first | omega | (simp; done) | (simp; omega)) _ | refine Below.setCell ?_ (by first | omega | (simp; done) | (simp; omega)) _ | refine Below.trans ?_ (Below.mono (by assumption) (by first | omega | (simp; done) | (simp; omega)))))
    · have he := str_beq_nil (s := s) (by intro h; subst h; simp at hb)
      have h13 : decide ((13 : Int) < (s.length : Int)) = true := by simp; omega
      go_enter Tryd.func31, Tryd.ntmps31
      go_wp2_with (fail)
      all_goals (go_ret2; exact RetV.of rfl (by repeat (first | exact Below.refl _ _ | refine Below.drew ?_ | refine Below.alloc ?_ (by first | omega | (simp; done) | (simp; omega)) _ | refine Below.setCell ?_ (by first | omega | (simp; done) | (simp; omega)) _ | refine Below.trans ?_ (Below.mono (by assumption) (by first | omega | (simp; done) | (simp; omega))))))
    · rw [head_zero (by omega)] at h2
      have h0 : 0 < s.length := by omega
      have hz : ((s[0].toNat : Int) == 48) = true := by simp; omega
      go_enter Tryd.func31, Tryd.ntmps31
      go_wp2_with (fail)
      all_goals (go_ret2; exact RetV.of rfl (by repeat (first | exact Below.refl _ _ | refine Below.drew ?_ | refine Below.alloc ?_ (by first | omega | (simp; done) | (simp; omega)) _ | refine Below.setCell ?_ (by first | omega | (simp; done) | (simp; omega)) _ | refine Below.trans ?_ (Below.mono (by assumption) (by first | omega | (simp; done) | (simp; omega))))))
  · have hne : s ≠ [] := fun h => hb (.inl h)
    have hlen : s.length ≤ 13 := Nat.le_of_not_lt fun h => hb (.inr (.inl h))
    have h0 : 0 < s.length := by
      rcases Nat.eq_zero_or_pos s.length with h | h
      · exact absurd (List.eq_nil_of_length_eq_zero h) hne
      · exact h
    have hz : 1 < s.length → ((s[0].toNat : Int) == 48) = false := fun h1 => by
      have : ¬ s[0].toNat = 48 := fun h => hb (.inr (.inr ⟨h1, by rw [head_zero h0]; exact h⟩))
      simp; omega
    have hR : intR s most = match intF 0 s with | none => none | some n => if most < (n : Int) ∨ 1099511627776 < n then none else some n := by unfold intR; rw [if_neg hb] <;> rfl
    have HR := Lib.hid hR
    have he := str_beq_nil hne
    have h13 : decide ((13 : Int) < (s.length : Int)) = false := by simp; omega
    clear hR hb hne
    have key : Calls Tryd.prog 31 #[.string (str s), .int .i64 most] w (RetV w (.tuple #[.int .i64 (intV s most), .bool (intOk s most)])) := by
      by_cases h1 : 1 < s.length
      all_goals
        first
          | (have hz1 := hz h1; have h1' : decide ((1 : Int) < (s.length : Int)) = true := by simp; omega)
          | (have h1' : decide ((1 : Int) < (s.length : Int)) = false := by simp; omega)
        clear hz h1
        go_enter Tryd.func31, Tryd.ntmps31
        go_wp2_with (with_reducible refine stop_conv 9 63 (.tmp 26) rfl rfl ?_)
        refine Stop.mk (wpList_strbytes rfl _ _ (.tmp 26) rfl Tryd.underlying9 Tryd.underlying63 Tryd.underlying5 s rfl hs ?_)
        intro A c w1 hlaid
        have hb1 := hlaid.below
        have Hl := Lib.hid hlaid
        clear hlaid
        go_wp2_with (fail)
        go_loopw [6, 29] (fun n i wr => ∃ k m : Nat, Hid (IntAt s k m) ∧ k ≤ s.length ∧ i = .int .i64 k ∧ n = .int .i64 m ∧ wr = w1) (fun _ i _ => s.length - (intOf i).toNat)
        case atStart => exact ⟨0, 0, IntAt.start s, by omega, rfl, rfl, rfl⟩
        case round =>
          obtain ⟨k, m, hp, hk, rfl, rfl, rfl⟩ := hrel
          have hm := hp.out.2
          have hm13 : m < 10 ^ 13 := Nat.lt_of_lt_of_le hm (Nat.pow_le_pow_right (by omega) (by omega))
          clear hm
          by_cases hlt : k < s.length
          · obtain ⟨b, off, rfl, hbb, hrow⟩ := Hl.out.reads.at hlt
            have e0 : wr.cell? ⟨b, off + k, none⟩ = some (.int .u8 s[k].toNat) := by have := hrow k hlt 0 _ rfl; simpa using this
            have hk0 : (0 : Int) ≤ (k : Int) := by omega
            have hk1 : (k : Int) < (s.length : Int) := by omega
            have h256 := s[k].toNat_lt
            by_cases hd : 48 ≤ s[k].toNat ∧ s[k].toNat ≤ 57
            · have hp2 := Lib.hid (hp.out.next hlt hd.1 hd.2)
              have hd1 : decide ((s[k].toNat : Int) < 48) = false := by simp; omega
              have hd2 : decide ((57 : Int) < (s[k].toNat : Int)) = false := by simp; omega
              have hd3 := hd.1
              have hd4 := hd.2
              clear hrow hd hp
              go_wp2_with (fail)
              go_roundw
              case rel => exact ⟨k + 1, 10 * m + (s[k].toNat - 48), hp2.out, by omega, by go_num, by first | rfl | (congr 1; push_cast; omega) | (simp; omega), by first | rfl | trivial⟩
              case measure => simp [intOf]; omega
            · have hn : intR s most = none := by rw [HR.out, hp.out.bad hlt hd]
              have HN1 := Lib.hid (intR_none hn).1
              have HN2 := Lib.hid (intR_none hn).2
              clear hn hrow hp HR
              by_cases hd1 : s[k].toNat < 48
              all_goals
                first
                  | (have hd2 : decide ((s[k].toNat : Int) < 48) = true := by simp; omega)
                  | ((have hd2 : decide ((s[k].toNat : Int) < 48) = false := by simp; omega); (have hd3 : decide ((57 : Int) < (s[k].toNat : Int)) = true := by simp; omega))
                clear hd1 hd
                go_wp2_with (fail)
                go_ret2
                rw [HN1.out, HN2.out]
                exact RetV.of rfl hb1
          · obtain rfl : k = s.length := by omega
            have hdone := hp.out.done
            have hmm := intF_lt s 0 m hdone
            clear hp hlt
            by_cases hlong : most < (m : Int) ∨ 1099511627776 < m
            · have hn : intR s most = none := by rw [HR.out, hdone]; simp only; rw [if_pos hlong]
              have HN1 := Lib.hid (intR_none hn).1
              have HN2 := Lib.hid (intR_none hn).2
              have hmin : decide (min most 1099511627776 < (m : Int)) = true := by simp; omega
              clear hn hdone HR hlong
              go_wp2_with (fail)
              go_ret2
              rw [HN1.out, HN2.out]
              exact RetV.of rfl hb1
            · have hn : intR s most = some m := by rw [HR.out, hdone]; simp only; rw [if_neg hlong]
              have HN1 := Lib.hid (intR_some hn).1
              have HN2 := Lib.hid (intR_some hn).2
              have hmin : decide (min most 1099511627776 < (m : Int)) = false := by simp; omega
              clear hn hdone HR hlong
              go_wp2_with (fail)
              go_ret2
              rw [HN1.out, HN2.out]
              exact RetV.of rfl hb1
    exact key
end Go.Proofs.YtkofjkadmknmjaaDoor
namespace Go.Proofs.YtkofjkadmknmjaaDoor
open Go.RowKit

theorem showB_cons {s : Nat} (h : idx s ≠ []) : showB s = joinC 44 ((idx s).map tens) := by
  unfold showB
  by_cases h0 : s = 0
  · subst h0; exact absurd idx_zero h
  · rw [if_neg h0]
theorem joinT_len (l : List Nat) (hl : ∀ n ∈ l, n < 32) : (joinC 44 (l.map tens)).length ≤ 3 * l.length := by
  induction l with
  | nil => simp [joinC]
  | cons n l ih =>
    have h1 := ih (fun m hm => hl m (List.mem_cons_of_mem _ hm))
    have h2 := tens_len n 2 (by have := hl n (List.mem_cons_self ..); omega) (by omega)
    cases l with
    | nil => simp [joinC]; omega
    | cons m l =>
      rw [List.map_cons, joinC_cons _ _ (by simp), List.length_append, List.length_cons]
      simp only [List.length_cons] at *
      omega
end Go.Proofs.YtkofjkadmknmjaaDoor
namespace Go.Proofs.YtkofjkadmknmjaaDoor
open Go.RowKit

def setV (t : List UInt8) : Value := .tuple #[.int .u32 ((readB t).getD 0 : Nat), .bool (readB t).isSome]
theorem setV_some {t : List UInt8} {s : Nat} (h : readB t = some s) : setV t = .tuple #[.int .u32 s, .bool true] := by unfold setV; rw [h]; rfl
theorem setV_none {t : List UInt8} (h : readB t = none) : setV t = .tuple #[.int .u32 0, .bool false] := by unfold setV; rw [h]; rfl
theorem bitN_of {n : Nat} (h : n < 32) : bitN (n : Int) = 2 ^ n := bitN_nat (by omega)
end Go.Proofs.YtkofjkadmknmjaaDoor
namespace Go.Proofs.YtkofjkadmknmjaaDoor
open Go.RowKit

set_option maxHeartbeats 1000000 in
set_option maxRecDepth 4000 in
theorem c_bits_Read (t : List UInt8) (ht : t.length ≤ 1000000) (w : World) (hM : MaxV w) : Calls Tryd.prog 33 #[.string (str t)] w (RetV w (setV t)) := by
  by_cases h45 : t = [45]
  · rw [setV_some (show readB t = some 0 by unfold readB; rw [if_pos h45])]
    subst h45
    go_enter Tryd.func33, Tryd.ntmps33
    go_wp2_with (fail)
    go_ret2
    exact RetV.of rfl (by repeat (first | exact Below.refl _ _ | refine Below.drew ?_ | refine Below.alloc ?_ (by first | omega | (simp; done) | (simp; omega)) _ | refine Below.setCell ?_ (by first | omega | (simp; done) | (simp; omega)) _ | refine Below.trans ?_ (Below.mono (by assumption) (by first | omega | (simp; done) | (simp; omega)))))
  · have RB := Lib.hid (show readB t = readP (cuts 44 t) 0 (-1) by unfold readB; rw [if_neg h45])
    have e45 : (t == [45]) = false := by simpa using h45
    have CS := Lib.hid (c_Split t 44 w hM (by omega))
    have hcl := cuts_len 44 t
    have hpart := Lib.hid (cuts_part 44 t)
    obtain ⟨l, hl⟩ : ∃ l, cuts 44 t = l := ⟨_, rfl⟩
    rw [hl] at CS hpart hcl RB
    clear hl h45
    go_enter Tryd.func33, Tryd.ntmps33
    go_wp2_with (fail)
    refine CS.out.mono ?_
    rintro e w1 ⟨A1, c1, rfl, hin, hb1⟩
    have hC := hin.2.1
    have hLc := hin.1
    have HI := Lib.hid hin
    have B1 := Lib.hid hb1
    have hz1 := hb1.size
    clear hb1 hin
    go_wp2_with (fail)
    go_loopw [4, 5, 15] (fun s la i wr => ∃ (k m : Nat) (last : Int), i = .int .i64 k ∧ s = .int .u32 m ∧ la = .int .i64 last ∧ k ≤ l.length ∧ m < 4294967296 ∧ Hid (readP l 0 (-1) = readP (l.drop k) m last) ∧ Hid (Below w1.heap.size w1 wr)) (fun _ _ i _ => l.length - (intOf i).toNat)
    case atStart => exact ⟨0, 0, -1, rfl, rfl, rfl, by omega, by omega, rfl, Below.refl _ _⟩
    case round =>
      obtain ⟨k, m, last, rfl, rfl, rfl, hk, hm, HR, B2⟩ := hrel
      by_cases hlt : k < l.length
      · have d1 : decide (k < l.length) = true := by simpa using hlt
        obtain ⟨b, off, hA, hbb, hrow⟩ := HI.out.at (i := k) hlt
        obtain rfl : A1 = some ⟨b, off, none⟩ := hA
        have ek := (B2.out.cell (p := ⟨b, off + k, none⟩) hbb).trans (show w1.cell? ⟨b, off + k, none⟩ = some (.string (str l[k])) by have := hrow k hlt 0 _ rfl; simpa using this)
        have hpl := hpart.out l[k] (List.getElem_mem hlt)
        have CI := Lib.hid (fun w' => c_bits_Int l[k] 31 w' (by omega))
        have HR2 := Lib.hid (show readP l 0 (-1) = match intR l[k] 31 with | none => none | some n => if (n : Int) ≤ last then none else readP (l.drop (k + 1)) (m ||| 2 ^ n) n by rw [HR.out, List.drop_eq_getElem_cons hlt]; rfl)
        have hk0 : (0 : Int) ≤ (k : Int) := by omega
        have hk1 : (k : Int) < (l.length : Int) := by omega
        clear hrow HR
        cases hi : intR l[k] 31 with
        | none =>
          replace CI := Lib.hid (by have := CI.out; rw [(intR_none hi).1, (intR_none hi).2] at this; exact this)
          have V := Lib.hid (setV_none (show readB t = none by rw [RB.out, HR2.out, hi]))
          clear hi HR2
          go_wp2_with (fail)
          refine (CI.out _).mono ?_
          rintro e w4 ⟨rfl, hb4⟩
          have B4 := Lib.hid (B2.out.trans (hb4.mono B2.out.size))
          clear hb4 B2
          go_wp2_with (fail)
          go_ret2
          rw [V.out]
          exact RetV.of rfl (B1.out.trans (B4.out.mono hz1))
        | some n =>
          have hn32 : n < 32 := by have := (tens_intR hi).2.2; omega
          replace CI := Lib.hid (by have := CI.out; rw [(intR_some hi).1, (intR_some hi).2] at this; exact this)
          replace HR2 := Lib.hid (show readP l 0 (-1) = if (n : Int) ≤ last then none else readP (l.drop (k + 1)) (m ||| 2 ^ n) n by rw [HR2.out, hi])
          clear hi
          by_cases hle : (n : Int) ≤ last
          · have d2 : decide ((n : Int) ≤ last) = true := by simpa using hle
            have V := Lib.hid (setV_none (show readB t = none by rw [RB.out, HR2.out, if_pos hle]))
            clear HR2 hle
            go_wp2_with (fail)
            refine (CI.out _).mono ?_
            rintro e w4 ⟨rfl, hb4⟩
            have B4 := Lib.hid (B2.out.trans (hb4.mono B2.out.size))
            clear hb4 B2
            go_wp2_with (fail)
            go_ret2
            rw [V.out]
            exact RetV.of rfl (B1.out.trans (B4.out.mono hz1))
          · have d2 : decide ((n : Int) ≤ last) = false := by simpa using hle
            replace HR2 := Lib.hid (show readP l 0 (-1) = readP (l.drop (k + 1)) (m ||| 2 ^ n) n by rw [HR2.out, if_neg hle])
            have CB := Lib.hid (fun w' => c_bits_bitA (n : Int) w')
            rw [bitN_of hn32] at CB
            have h2n : (2 : Nat) ^ n < 4294967296 := by
              have : (2 : Nat) ^ n < 2 ^ 32 := Nat.pow_lt_pow_right (by omega) hn32
              omega
            have hm2 : m ||| 2 ^ n < 4294967296 := Nat.or_lt_two_pow (n := 32) hm h2n
            obtain ⟨q, hq⟩ : ∃ q, 2 ^ n = q := ⟨_, rfl⟩
            rw [hq] at CB h2n hm2
            replace HR2 := Lib.hid (by have := HR2.out; rw [hq] at this; exact this)
            have ho := or_u32 m q hm h2n
            clear hle hq
            go_wp2_with (fail)
            refine (CI.out _).mono ?_
            rintro e w4 ⟨rfl, hb4⟩
            have B4 := Lib.hid (B2.out.trans (hb4.mono B2.out.size))
            clear hb4 B2
            go_wp2_with (fail)
            refine (CB.out _).mono ?_
            rintro e w5 ⟨rfl, hb5⟩
            have B5 := Lib.hid (B4.out.trans (hb5.mono B4.out.size))
            clear hb5 B4
            go_wp2_with (fail)
            go_roundw
            case rel => exact ⟨k + 1, m ||| q, n, by go_num, rfl, rfl, by omega, hm2, HR2.out, B5.out⟩
            case measure => simp [intOf]; omega
      · obtain rfl : k = l.length := by omega
        have d1 : decide (l.length < l.length) = false := by simp
        have V := Lib.hid (setV_some (show readB t = some m by rw [RB.out, HR.out, List.drop_length]; rfl))
        clear hlt HR
        go_wp2_with (fail)
        go_ret2
        rw [V.out]
        exact RetV.of rfl (B1.out.trans (B2.out.mono hz1))
end Go.Proofs.YtkofjkadmknmjaaDoor
