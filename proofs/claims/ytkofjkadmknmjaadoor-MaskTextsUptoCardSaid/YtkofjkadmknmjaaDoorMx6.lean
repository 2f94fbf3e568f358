/-
  Lemmas (walks and plain laws), in one text.
-/
import Derived.Test.YtkofjkadmknmjaaDoorMx5
import Derived.Test.YtkofjkadmknmjaaDoorRows
import Derived.WalkKit
import Derived.WalkSpells
import Derived.WalkLawsBesides
import Derived.Lib.Hide
import Derived.Deep.QuietTactic
import Derived.BigQuiet
import Derived.Maps.AppendAt
import Derived.WalkSmall
import Derived.ProofKit
import Derived.OpenShut
import Derived.JoinedCond
import Derived.Deep.Slices
import Derived.Deep.Fields
import Derived.Carry
import Derived.HandedShaped
import Derived.Shelf.Small.Wraps
import Derived.Shelf.Utf8.RuneCount
import Derived.Shelf.Strconv.Itoa0
import Derived.Shelf.Strconv.Itoa1
import Derived.Shelf.LaysM
import Derived.Shelf.Strconv.Itoa2
import Derived.Shelf.Strconv.Itoa3
import Derived.Shelf.Strings.Search1
import Derived.Shelf.Strings.Search2
import Derived.Shelf.Strings.Search3
import Derived.Shelf.Strings.Count
import Derived.Shelf.Strings.Shaped
import Derived.Shelf.Strings.Prefix
import Derived.Shelf.Strings.Split
import Derived.Shelf.Strings.SplitShaped
import Derived.Shelf.Unicode.DecodeSlow
import Derived.Test.YtkofjkadmknmjaaDoorProg
import Derived.Deep.AppendSrc
import Derived.Lib.AppendStr
import Derived.Laws.BytesArg
import Derived.Lib.AppendIntMem
import Derived.Lib.ItoaLen
import Derived.Lib.TrailingZeros
import Derived.Lib.SplitLaws
import Derived.Lib.ItoaNum
import Derived.Shelf.Strings.PiecesUse
import Derived.Shelf.Spec.TrailingZeros
import Derived.RangeFuncNested
import Derived.RangeFuncBound
import Derived.RangeFuncCalls
import Derived.RangeFuncLeaves
import Derived.Shelf.Abstract
import Derived.Shelf.RegionOpen
import Derived.OwnWalkIn
import Derived.TacticsInMore
import Derived.LoopNIn
import Derived.LoopIn
import Derived.Test.YtkofjkadmknmjaaDoorTie
import Derived.Lib.LaidTab
import Derived.LaidMore
import Derived.Lay
import Derived.Stop.LaidErr
import Derived.SevenTiedAt
import Derived.Test.YtkofjkadmknmjaaDoorCards
import Derived.StillTail
import Derived.OrdersIn
import Derived.ControlIn
import Derived.Lib.BitFns
import Derived.Deep.CutBlock
import Derived.Deep.DeepCutAuto
import Derived.Laws.IdiomStrings
import Derived.Outline
import Derived.IntWalk
import Derived.Lib.Tables
import Derived.Lib.Strings
import Derived.Deep.DeepHandedRow
namespace Go.Proofs.YtkofjkadmknmjaaDoor
open Go.RowKit

theorem bitN_out {n : Int} (h : ¬ (0 ≤ n ∧ n ≤ 31)) : bitN n = 0 := by unfold bitN; rw [if_neg h]
/-! The program's. -/
set_option maxHeartbeats 400000 in
theorem c_bits_bitA (n : Int) (w : World) : Calls Tryd.prog 78 #[.int .i64 n] w (RetV w (.int .u32 (bitN n))) := by
  by_cases h : 0 ≤ n ∧ n ≤ 31
  · obtain ⟨k, rfl⟩ : ∃ k : Nat, n = k := ⟨n.toNat, by omega⟩
    exact c_bits_bit k w (by omega)
  · rw [bitN_out h]
    by_cases h0 : n < 0
    · have d0 : decide (n < 0) = true := by simpa using h0
      clear h h0
      go_enter Tryd.func78, Tryd.ntmps78
      go_wp2_with (fail)
      go_ret
      exact RetV.int rfl (by repeat (first | exact Below.refl _ _ | refine Below.drew ?_ | refine Below.alloc ?_ (by first | omega | (simp; done) | (simp; omega)) _ | refine Below.setCell ?_ (by first | omega | (simp; done) | (simp; omega)) _ | refine Below.trans ?_ (Below.mono (by assumption) (by first | omega | (simp; done) | (simp; omega)))))
    · have d0 : decide (n < 0) = false := by simpa using h0
      have d1 : decide (31 < n) = true := by simp; omega
      clear h h0
      go_enter Tryd.func78, Tryd.ntmps78
      go_wp2_with (fail)
      go_ret
      exact RetV.int rfl (by repeat (first | exact Below.refl _ _ | refine Below.drew ?_ | refine Below.alloc ?_ (by first | omega | (simp; done) | (simp; omega)) _ | refine Below.setCell ?_ (by first | omega | (simp; done) | (simp; omega)) _ | refine Below.trans ?_ (Below.mono (by assumption) (by first | omega | (simp; done) | (simp; omega)))))
set_option maxHeartbeats 400000 in
theorem c_bits_OfA (l : List Int) (A : Option Addr) (c : Nat) (w : World) (h : InI w A c l) :
    Calls Tryd.prog 47 #[.slice A l.length c] w (RetV w (.int .u32 (maskOf l))) := by
  have hL := h.1
  have hC := h.2.1
  have hS := h.2.2.1
  have hm0 : maskOf (l.take 0) = 0 := rfl
  go_enter Tryd.func47, Tryd.ntmps47
  go_wp2
  go_loopw [3, 5, 8] (fun s _ i wr => ∃ k : Nat, k ≤ l.length ∧ i = .int .i64 k ∧ s = .int .u32 (maskOf (l.take k)) ∧ Below w.heap.size w wr) (fun _ _ i _ => l.length - (intOf i).toNat)
  case atStart => exact ⟨0, Nat.zero_le _, rfl, rfl, (by repeat (first | exact Below.refl _ _ | refine Below.drew ?_ | refine Below.alloc ?_ (by first | omega | (simp; done) | (simp; omega)) _ | refine Below.setCell ?_ (by first | omega | (simp; done) | (simp; omega)) _ | refine Below.trans ?_ (Below.mono (by assumption) (by first | omega | (simp; done) | (simp; omega)))))⟩
  case round =>
    obtain ⟨k, hk, rfl, rfl, hb⟩ := hrel
    by_cases hlt : k < l.length
    · obtain ⟨b, off, rfl, hbb, hrow⟩ := h.at (i := k) hlt
      have hc0 := hrow.belowB hb hbb k hlt 0 _ rfl
      obtain ⟨n, hnn⟩ : ∃ n : Int, l[k] = n := ⟨_, rfl⟩
      have hb1 := maskOf_lt (l.take k)
      have hb2 := bitN_lt n
      have ho := or_u32 _ _ hb1 hb2
      have H := Lib.hid (show maskOf (l.take (k + 1)) = maskOf (l.take k) ||| bitN n by
        rw [List.take_succ_eq_append_getElem hlt, maskOf_snoc, hnn])
      simp [hnn] at hc0
      clear hnn hrow h
      go_wp2_with (go_at_call 78; refine (c_bits_bitA n _).mono ?_; rintro e w1 ⟨rfl, hb3⟩)
      go_roundw
      case rel => exact ⟨k + 1, by omega, by go_num, by rw [H.out], hb.trans (hb3.mono hb.size)⟩
      case measure => simp [intOf]; omega
    · have : k = l.length := by omega
      subst this
      have H := Lib.hid (List.take_of_length_le (Nat.le_refl l.length))
      go_wp2
      go_ret
      exact RetV.of (by rw [H.out]; rfl) hb
/-! The reference's. -/
end Go.Proofs.YtkofjkadmknmjaaDoor
namespace Go.Proofs.YtkofjkadmknmjaaDoor
open Go.RowKit

/-- The bytes of a text, in a block of the call's own. -/
structure Laid (w w' : World) (A : Option Addr) (c : Nat) (l : List UInt8) : Prop where
  pos : A = some ⟨w.heap.size, 0, none⟩
  below : Below w.heap.size w w'
  size : w'.heap.size = w.heap.size + 1
  reads : InB w' A c l
theorem run_str_bytes {P : Program} (w : World) {src dst e : TypeId} (hs : P.underlying src = some .string) (hd : P.underlying dst = some (.slice e)) (he : P.underlying e = some (.int .u8)) (l : List UInt8) (hl : l.length ≤ 4294967296) :
    ∃ A c w', (convert src dst (.string (str l))).run P w = .ok (.slice A l.length c) w' ∧ Laid w w' A c l := by
  have h := run_bytes_of_string (P := P) w src dst e (str l) hs hd he
  have hge := grownCap_ge w (str l).size 0 e
  have hcm := grownCap_le_maxLen w (str l).size 0 e (by rw [str_size]; unfold maxLen; omega)
  rw [str_size] at h hge hcm
  refine ⟨_, _, _, h, rfl, ((Below.refl _ _).drew).alloc (Nat.le_refl _) _, World.size_alloc _ _, hge, by unfold maxLen at hcm; omega, hl, .inr ⟨w.heap.size, 0, rfl, by rw [World.size_alloc]; exact Nat.lt_succ_self _, ?_⟩⟩
  intro i hi j u hu
  have hj : j < 1 := (List.getElem?_eq_some_iff.1 hu).1
  have h0 : j = 0 := by omega
  subst h0
  have hb := bytesRow_at (str l) (grownCap w l.length 0 e) i (by show i < l.toArray.size; simpa using hi)
  have hc := cell_of_row (w.drew.alloc (.cells (bytesRow (str l) (grownCap w l.length 0 e)) e ((bytesRow (str l) (grownCap w l.length 0 e)).size, (bytesRow (str l) (grownCap w l.length 0 e)).size + 1))) w.heap.size (0 + i * 1 + 0) _ _ _ (heap_alloc_new w.drew _)
  rw [hc, show 0 + i * 1 + 0 = i by omega, hb]
  simp only [bc, List.getElem?_cons_zero, Option.some.injEq] at hu
  rw [← hu]
  rfl
theorem wpList_strbytes {P : Program} {w : World} {ops : Array Oper} {rest : List Oper} {o : Oper} {a : Act} {Q : Exit → Act → World → Prop} (hgd : o.guard = none) (src dst : TypeId) (x : Operand) (ho : o.op = .convert src dst x)
    {e : TypeId} (hs : P.underlying src = some .string) (hd : P.underlying dst = some (.slice e)) (he : P.underlying e = some (.int .u8)) (l : List UInt8) (hx : a.eval x = .string (str l)) (hl : l.length ≤ 4294967296)
    (h : ∀ A c w', Laid w w' A c l → wpList P ops Q rest (a.put o.dst (.slice A l.length c)) w') : wpList P ops Q (o :: rest) a w := by
  refine wpList_plain hgd fun K hK => ?_
  obtain ⟨A, c, w', hrun, hl'⟩ := run_str_bytes (P := P) w hs hd he l hl
  unfold Oper.wp execOp
  simp only [ho, hx, hrun, Sem.run_bind, Sem.run_pure, Result.andThen_ok]
  exact hK _ _ (h A c w' hl')
theorem stop_conv {P : Program} {w : World} {ops : Array Oper} {rest : List Oper} {o : Oper} {a : Act} {Q : Exit → Act → World → Prop} (src dst : TypeId) (x : Operand) (_ : o.guard = none) (_ : o.op = .convert src dst x) (h : Stop (wpList P ops Q (o :: rest) a w)) : wpList P ops Q (o :: rest) a w := h
end Go.Proofs.YtkofjkadmknmjaaDoor
namespace Go.Proofs.YtkofjkadmknmjaaDoor
open Go.RowKit

def intV (s : List UInt8) (most : Int) : Int := match intR s most with | some n => n | none => 0
def intOk (s : List UInt8) (most : Int) : Bool := (intR s most).isSome
theorem intR_none {s : List UInt8} {most : Int} (h : intR s most = none) : intV s most = 0 ∧ intOk s most = false := by unfold intV intOk; rw [h]; exact ⟨rfl, rfl⟩
theorem intR_some {s : List UInt8} {most : Int} {n : Nat} (h : intR s most = some n) : intV s most = n ∧ intOk s most = true := by unfold intV intOk; rw [h]; exact ⟨rfl, rfl⟩
theorem intF_lt : ∀ (s : List UInt8) (n m : Nat), intF n s = some m → m < (n + 1) * 10 ^ s.length
  | [], n, m, h => by simp only [intF, Option.some.injEq] at h; subst h; simp
  | c :: s, n, m, h => by
    rw [intF] at h
    split at h
    · have := intF_lt s _ m h
      have e : (10 * n + (c.toNat - 48) + 1) * 10 ^ s.length ≤ (n + 1) * 10 * 10 ^ s.length := Nat.mul_le_mul_right _ (by omega)
      rw [List.length_cons, Nat.pow_succ]
      rw [Nat.mul_comm (10 ^ s.length) 10, ← Nat.mul_assoc]; omega
    · cases h
/-- How far a number's text has been read. -/
def IntAt (s : List UInt8) (k n : Nat) : Prop := intF 0 s = intF n (s.drop k) ∧ n < 10 ^ k
theorem IntAt.start (s : List UInt8) : IntAt s 0 0 := ⟨rfl, by simp⟩
theorem IntAt.next {s : List UInt8} {k n : Nat} (h : IntAt s k n) (hk : k < s.length) (h1 : 48 ≤ s[k].toNat) (h2 : s[k].toNat ≤ 57) : IntAt s (k + 1) (10 * n + (s[k].toNat - 48)) := by
  refine ⟨?_, ?_⟩
  · rw [h.1, List.drop_eq_getElem_cons hk, intF, if_pos ⟨h1, h2⟩]
  · have := h.2
    rw [Nat.pow_succ]; omega
theorem IntAt.bad {s : List UInt8} {k n : Nat} (h : IntAt s k n) (hk : k < s.length) (h1 : ¬ (48 ≤ s[k].toNat ∧ s[k].toNat ≤ 57)) : intF 0 s = none := by
  rw [h.1, List.drop_eq_getElem_cons hk, intF, if_neg h1]
theorem IntAt.done {s : List UInt8} {n : Nat} (h : IntAt s s.length n) : intF 0 s = some n := by
  rw [h.1, List.drop_length, intF]
theorem head_zero {s : List UInt8} (h : 0 < s.length) : (s.head? = some 48) = (s[0].toNat = 48) := by
  cases s with
  | nil => simp at h
  | cons c s =>
    simp only [List.head?_cons, Option.some.injEq, List.getElem_cons_zero, eq_iff_iff]
    constructor
    · intro h; subst h; rfl
    · intro h; have : c = UInt8.ofNat c.toNat := by simp
      rw [this, h]; rfl
theorem str_beq_nil {s : List UInt8} (h : s ≠ []) : s.isEmpty = false := by cases s <;> simp_all

set_option maxHeartbeats 1000000 in
set_option maxRecDepth 4000 in
theorem c_bits_Int (s : List UInt8) (most : Int) (w : World) (hs : s.length ≤ 4294967296) : Calls Tryd.prog 31 #[.string (str s), .int .i64 most] w (RetV w (.tuple #[.int .i64 (intV s most), .bool (intOk s most)])) := by
  by_cases hb : s = [] ∨ 13 < s.length ∨ (1 < s.length ∧ s.head? = some 48)
  · have hn : intR s most = none := by unfold intR; rw [if_pos hb]
    rw [(intR_none hn).1, (intR_none hn).2]
    clear hn
    rcases hb with rfl | hb | ⟨h1, h2⟩
    · go_enter Tryd.func31, Tryd.ntmps31
      go_wp2_with (fail)
      go_ret2
      exact RetV.of rfl (by repeat (first | exact Below.refl _ _ | refine Below.drew ?_ | refine Below.alloc ?_ (by first | omega | (simp; done) | (simp; omega)) _ | refine Below.setCell ?_ (by first | omega | (simp; done) | (simp; omega)) _ | refine Below.trans ?_ (Below.mono (by assumption) (by first | omega | (simp; done) | (simp; omega)))))
    · have he := str_beq_nil (s := s) (by intro h; subst h; simp at hb)
      have h13 : decide ((13 : Int) < (s.length : Int)) = true := by simp; omega
      go_enter Tryd.func31, Tryd.ntmps31
      go_wp2_with (fail)
      all_goals (go_ret2; exact RetV.of rfl (by repeat (first | exact Below.refl _ _ | refine Below.drew ?_ | refine Below.alloc ?_ (by first | omega | (simp; done) | (simp; omega)) _ | refine Below.setCell ?_ (by first | omega | (simp; done) | (simp; omega)) _ | refine Below.trans ?_ (Below.mono (by assumption) (by first | omega | (simp; done) | (simp; omega))))))
    · rw [head_zero (by omega)] at h2
      have h0 : 0 < s.length := by omega
      have hz : ((s[0].toNat : Int) == 48) = true := by simp; omega
      go_enter Tryd.func31, Tryd.ntmps31
      go_wp2_with (fail)
      all_goals (go_ret2; exact RetV.of rfl (by repeat (first | exact Below.refl _ _ | refine Below.drew ?_ | refine Below.alloc ?_ (by first | omega | (simp; done) | (simp; omega)) _ | refine Below.setCell ?_ (by first | omega | (simp; done) | (simp; omega)) _ | refine Below.trans ?_ (Below.mono (by assumption) (by first | omega | (simp; done) | (simp; omega))))))
  · have hne : s ≠ [] := fun h => hb (.inl h)
    have hlen : s.length ≤ 13 := Nat.le_of_not_lt fun h => hb (.inr (.inl h))
    have h0 : 0 < s.length := by
      rcases Nat.eq_zero_or_pos s.length with h | h
      · exact absurd (List.eq_nil_of_length_eq_zero h) hne
      · exact h
    have hz : 1 < s.length → ((s[0].toNat : Int) == 48) = false := fun h1 => by
      have : ¬ s[0].toNat = 48 := fun h => hb (.inr (.inr ⟨h1, by rw [head_zero h0]; exact h⟩))
      simp; omega
    have hR : intR s most = match intF 0 s with | none => none | some n => if most < (n : Int) ∨ 1099511627776 < n then none else some n := by unfold intR; rw [if_neg hb] <;> rfl
    have HR := Lib.hid hR
    have he := str_beq_nil hne
    have h13 : decide ((13 : Int) < (s.length : Int)) = false := by simp; omega
    clear hR hb hne
    have key : Calls Tryd.prog 31 #[.string (str s), .int .i64 most] w (RetV w (.tuple #[.int .i64 (intV s most), .bool (intOk s most)])) := by
      by_cases h1 : 1 < s.length
      all_goals
        first
          | (have hz1 := hz h1; have h1' : decide ((1 : Int) < (s.length : Int)) = true := by simp; omega)
          | (have h1' : decide ((1 : Int) < (s.length : Int)) = false := by simp; omega)
        clear hz h1
        go_enter Tryd.func31, Tryd.ntmps31
        go_wp2_with (with_reducible refine stop_conv 9 63 (.tmp 26) rfl rfl ?_)
        refine Stop.mk (wpList_strbytes rfl _ _ (.tmp 26) rfl Tryd.underlying9 Tryd.underlying63 Tryd.underlying5 s rfl hs ?_)
        intro A c w1 hlaid
        have hb1 := hlaid.below
        have Hl := Lib.hid hlaid
        clear hlaid
        go_wp2_with (fail)
        go_loopw [6, 29] (fun n i wr => ∃ k m : Nat, Hid (IntAt s k m) ∧ k ≤ s.length ∧ i = .int .i64 k ∧ n = .int .i64 m ∧ wr = w1) (fun _ i _ => s.length - (intOf i).toNat)
        case atStart => exact ⟨0, 0, IntAt.start s, by omega, rfl, rfl, rfl⟩
        case round =>
          obtain ⟨k, m, hp, hk, rfl, rfl, rfl⟩ := hrel
          have hm := hp.out.2
          have hm13 : m < 10 ^ 13 := Nat.lt_of_lt_of_le hm (Nat.pow_le_pow_right (by omega) (by omega))
          clear hm
          by_cases hlt : k < s.length
          · obtain ⟨b, off, rfl, hbb, hrow⟩ := Hl.out.reads.at hlt
            have e0 : wr.cell? ⟨b, off + k, none⟩ = some (.int .u8 s[k].toNat) := by have := hrow k hlt 0 _ rfl; simpa using this
            have hk0 : (0 : Int) ≤ (k : Int) := by omega
            have hk1 : (k : Int) < (s.length : Int) := by omega
            have h256 := s[k].toNat_lt
            by_cases hd : 48 ≤ s[k].toNat ∧ s[k].toNat ≤ 57
            · have hp2 := Lib.hid (hp.out.next hlt hd.1 hd.2)
              have hd1 : decide ((s[k].toNat : Int) < 48) = false := by simp; omega
              have hd2 : decide ((57 : Int) < (s[k].toNat : Int)) = false := by simp; omega
              have hd3 := hd.1
              have hd4 := hd.2
              clear hrow hd hp
              go_wp2_with (fail)
              go_roundw
              case rel => exact ⟨k + 1, 10 * m + (s[k].toNat - 48), hp2.out, by omega, by go_num, by first | rfl | (congr 1; push_cast; omega) | (simp; omega), by first | rfl | trivial⟩
              case measure => simp [intOf]; omega
            · have hn : intR s most = none := by rw [HR.out, hp.out.bad hlt hd]
              have HN1 := Lib.hid (intR_none hn).1
              have HN2 := Lib.hid (intR_none hn).2
              clear hn hrow hp HR
              by_cases hd1 : s[k].toNat < 48
              all_goals
                first
                  | (have hd2 : decide ((s[k].toNat : Int) < 48) = true := by simp; omega)
                  | ((have hd2 : decide ((s[k].toNat : Int) < 48) = false := by simp; omega); (have hd3 : decide ((57 : Int) < (s[k].toNat : Int)) = true := by simp; omega))
                clear hd1 hd
                go_wp2_with (fail)
                go_ret2
                rw [HN1.out, HN2.out]
                exact RetV.of rfl hb1
          · obtain rfl : k = s.length := by omega
            have hdone := hp.out.done
            have hmm := intF_lt s 0 m hdone
            clear hp hlt
            by_cases hlong : most < (m : Int) ∨ 1099511627776 < m
            · have hn : intR s most = none := by rw [HR.out, hdone]; simp only; rw [if_pos hlong]
              have HN1 := Lib.hid (intR_none hn).1
              have HN2 := Lib.hid (intR_none hn).2
              have hmin : decide (min most 1099511627776 < (m : Int)) = true := by simp; omega
              clear hn hdone HR hlong
              go_wp2_with (fail)
              go_ret2
              rw [HN1.out, HN2.out]
              exact RetV.of rfl hb1
            · have hn : intR s most = some m := by rw [HR.out, hdone]; simp only; rw [if_neg hlong]
              have HN1 := Lib.hid (intR_some hn).1
              have HN2 := Lib.hid (intR_some hn).2
              have hmin : decide (min most 1099511627776 < (m : Int)) = false := by simp; omega
              clear hn hdone HR hlong
              go_wp2_with (fail)
              go_ret2
              rw [HN1.out, HN2.out]
              exact RetV.of rfl hb1
    exact key
end Go.Proofs.YtkofjkadmknmjaaDoor
namespace Go.Proofs.YtkofjkadmknmjaaDoor
open Go.RowKit

set_option maxHeartbeats 1000000 in
theorem ref03_Tens_low (n : Nat) (h : n < 10) (w : World) : Calls Tryd.prog 36 #[.int .i64 n] w (RetV w (.string (str (tens n)))) := by
  have kc := fun (w : World) (x : Int) => conv_one (P := Tryd.prog) w (src := 63) (dst := 9) (e := 5) Tryd.underlying63 Tryd.underlying5 Tryd.underlying9 x
  have H := Lib.hid (tens_lt h)
  have d1 : decide ((n : Int) < 0) = false := by simp
  have d2 : decide ((n : Int) < 10) = true := by simp; omega
  go_enter Tryd.func36, Tryd.ntmps36
  go_wp2_with (fail)
  go_ret
  refine RetV.str ?_ (by repeat (first | exact Below.refl _ _ | refine Below.drew ?_ | refine Below.alloc ?_ (by first | omega | (simp; done) | (simp; omega)) _ | refine Below.setCell ?_ (by first | omega | (simp; done) | (simp; omega)) _ | refine Below.trans ?_ (Below.mono (by assumption) (by first | omega | (simp; done) | (simp; omega)))))
  rw [H.out]
  congr 2
  omega
set_option maxHeartbeats 1000000 in
theorem ref03_Tens_high (n : Nat) (h : ¬ n < 10) (hn : n ≤ 9223372036854775807) (w : World) (ih : ∀ w', Calls Tryd.prog 36 #[.int .i64 ((n / 10 : Nat) : Int)] w' (RetV w' (.string (str (tens (n / 10)))))) :
    Calls Tryd.prog 36 #[.int .i64 n] w (RetV w (.string (str (tens n)))) := by
  have kc := fun (w : World) (x : Int) => conv_one (P := Tryd.prog) w (src := 63) (dst := 9) (e := 5) Tryd.underlying63 Tryd.underlying5 Tryd.underlying9 x
  have H := Lib.hid (tens_ge h)
  have IH := Lib.hid ih
  have hl := tens_len (n / 10) 19 (by omega) (by omega)
  have d1 : decide ((n : Int) < 0) = false := by simp
  have d2 : decide ((n : Int) < 10) = false := by simp; omega
  clear ih h
  go_enter Tryd.func36, Tryd.ntmps36
  go_wp2_with (fail)
  refine (IH.out _).mono ?_
  rintro e w2 ⟨rfl, hb2⟩
  have hB := Lib.hid (show Below w.heap.size w w2 from Below.trans (by repeat (first | exact Below.refl _ _ | refine Below.drew ?_ | refine Below.alloc ?_ (by first | omega | (simp; done) | (simp; omega)) _ | refine Below.setCell ?_ (by first | omega | (simp; done) | (simp; omega)) _ | refine Below.trans ?_ (Below.mono (by assumption) (by first | omega | (simp; done) | (simp; omega))))) (hb2.mono (by simp)))
  clear hb2
  go_wp2_with (fail)
  go_ret
  refine RetV.str ?_ hB.out
  rw [H.out, UInt8.ofNat_add]
  rfl
theorem c_ref03_Tens (n : Nat) (hn : n ≤ 9223372036854775807) (w : World) : Calls Tryd.prog 36 #[.int .i64 n] w (RetV w (.string (str (tens n)))) := by
  induction n using Nat.strongRecOn generalizing w with
  | _ n ih =>
    by_cases h : n < 10
    · exact ref03_Tens_low n h w
    · exact ref03_Tens_high n h hn w (fun w' => ih (n / 10) (by omega) (by omega) w')
end Go.Proofs.YtkofjkadmknmjaaDoor
namespace Go.Proofs.YtkofjkadmknmjaaDoor
open Go.RowKit

set_option maxHeartbeats 1000000 in
set_option maxRecDepth 4000 in
theorem c_ref03_List (s : Nat) (hs : s < 4294967296) (w : World) : Calls Tryd.prog 45 #[.int .u32 s] w (RetS 1 ic 3 w ((idx s).map Int.ofNat)) := by
  go_enter Tryd.func45, Tryd.ntmps45
  go_wp2_with (fail)
  go_loopw [3, 4] (fun v i wr => ∃ (k : Nat) (l : List Int), k ≤ 32 ∧ i = .int .i64 k ∧ Hid (l = (((List.range k).filter s.testBit).map Int.ofNat)) ∧ l.length ≤ k ∧ Hid (wr.ownsRow w.heap.size 3 1 v l.length (l.flatMap ic)) ∧ Hid (Below w.heap.size w wr)) (fun _ i _ => 32 - (intOf i).toNat)
  case atStart => exact ⟨0, [], by omega, rfl, rfl, by simp, World.ownsRow_lit w #[] 0 (Nat.le_refl _) (by unfold maxLen; omega) (by simp), (by repeat (first | exact Below.refl _ _ | refine Below.drew ?_ | refine Below.alloc ?_ (by first | omega | (simp; done) | (simp; omega)) _ | refine Below.setCell ?_ (by first | omega | (simp; done) | (simp; omega)) _ | refine Below.trans ?_ (Below.mono (by assumption) (by first | omega | (simp; done) | (simp; omega)))))⟩
  case round =>
    obtain ⟨k, l, hk, rfl, HL, hlk, O, B1⟩ := hrel
    obtain ⟨A9, c9, rfl, -, -⟩ := own_form O.out
    have hz := B1.out.size
    by_cases hlt : k < 32
    · have d1 : decide ((k : Int) < 32) = true := by simp; omega
      have HH := Lib.hid (fun w' => c_ref03_Has s k hs (by omega) w')
      cases hb : s.testBit k
      · replace HH := Lib.hid (by have := HH.out; rw [hb] at this; exact this)
        have HL2 := Lib.hid (show l = (((List.range (k + 1)).filter s.testBit).map Int.ofNat) by rw [List.range_succ, List.filter_append, List.map_append, HL.out]; simp [hb])
        clear hb
        go_wp2_with (fail)
        refine (HH.out _).mono ?_
        rintro e w1 ⟨rfl, hb1⟩
        have B2 := Lib.hid (B1.out.trans (hb1.mono hz))
        have O2 := Lib.hid (own_below O.out hb1)
        clear hb1 O B1
        go_wp2_with (fail)
        go_roundw
        case rel => exact ⟨k + 1, l, by omega, by go_num, HL2.out, by omega, O2.out, B2.out⟩
        case measure => simp [intOf]; omega
      · replace HH := Lib.hid (by have := HH.out; rw [hb] at this; exact this)
        have HL2 := Lib.hid (show l ++ [(k : Int)] = (((List.range (k + 1)).filter s.testBit).map Int.ofNat) by rw [List.range_succ, List.filter_append, List.map_append, HL.out]; simp [hb])
        clear hb
        go_wp2_with (fail)
        refine (HH.out _).mono ?_
        rintro e w1 ⟨rfl, hb1⟩
        have B2 := Lib.hid (B1.out.trans (hb1.mono hz))
        have O2 := Lib.hid (own_below O.out hb1)
        have hz2 := B2.out.size
        clear hb1 O B1
        go_wp2_with ((at_builtin; refine Stop.out ?_))
        refine Stop.mk (wpList_app _ rfl _ _ elemI rfl w.heap.size (.slice A9 l.length c9) l.length _ rfl (own_below O2.out ((Below.refl _ _).alloc (Nat.le_refl _) _)) _ 1 1 (ic (k : Int)) rfl (Src.new _ (ic (k : Int)) _ 1 rfl) (by simp [ic, Value.oneCell']) (by omega) (by simp; omega) ?_)
        intro v4 w4 own4 _ hb4 _
        have B4 := Lib.hid (B2.out.trans ((((Below.refl _ _).alloc hz2 _)).trans hb4))
        have O4 := Lib.hid (show w4.ownsRow w.heap.size 3 1 v4 ((l ++ [(k : Int)]).length) ((l ++ [(k : Int)]).flatMap ic) by simpa using own4)
        clear own4 hb4 O2 B2
        go_wp2_with (fail)
        go_roundw
        case rel => exact ⟨k + 1, l ++ [(k : Int)], by omega, by go_num, HL2.out, by simp; omega, O4.out, B4.out⟩
        case measure => simp [intOf]; omega
    · obtain rfl : k = 32 := by omega
      have d1 : decide ((32 : Int) < 32) = false := by simp
      clear hlt
      go_wp2_with (fail)
      go_ret
      exact RetS.of O.out (Nat.le_refl _) HL.out B1.out

end Go.Proofs.YtkofjkadmknmjaaDoor
namespace Go.Proofs.YtkofjkadmknmjaaDoor
open Go.RowKit

/-- A set's text, of how many of its numbers. -/
theorem showB_nil {s : Nat} (hs : s < 4294967296) (h : idx s = []) : showB s = [45] := by
  unfold showB
  by_cases h0 : s = 0
  · rw [if_pos h0]
  · exact absurd h (idx_ne h0 hs)
theorem showB_cons {s : Nat} (h : idx s ≠ []) : showB s = joinC 44 ((idx s).map tens) := by
  unfold showB
  by_cases h0 : s = 0
  · subst h0; exact absurd idx_zero h
  · rw [if_neg h0]
theorem joinT_len (l : List Nat) (hl : ∀ n ∈ l, n < 32) : (joinC 44 (l.map tens)).length ≤ 3 * l.length := by
  induction l with
  | nil => simp [joinC]
  | cons n l ih =>
    have h1 := ih (fun m hm => hl m (List.mem_cons_of_mem _ hm))
    have h2 := tens_len n 2 (by have := hl n (List.mem_cons_self ..); omega) (by omega)
    cases l with
    | nil => simp [joinC]; omega
    | cons m l =>
      rw [List.map_cons, joinC_cons _ _ (by simp), List.length_append, List.length_cons]
      simp only [List.length_cons] at *
      omega
set_option maxHeartbeats 1000000 in
set_option maxRecDepth 4000 in
theorem c_ref03_Show (s : Nat) (hs : s < 4294967296) (w : World) : Calls Tryd.prog 38 #[.int .u32 s] w (RetV w (.string (str (showB s)))) := by
  have hil := idx_len s
  obtain ⟨l, hl⟩ : ∃ l, l = idx s := ⟨_, rfl⟩
  have hlt32 : ∀ n ∈ l, n < 32 := fun n hn => idx_lt (by rw [← hl]; exact hn)
  have CL := Lib.hid (fun w' => show Calls Tryd.prog 45 #[.int .u32 s] w' (RetS 1 ic 3 w' (l.map Int.ofNat)) by rw [hl]; exact c_ref03_List s hs w')
  rw [← hl] at hil
  cases hlc : l with
  | nil =>
    have E := Lib.hid (showB_nil hs (by rw [← hl]; exact hlc))
    rw [hlc] at CL
    clear hlc hl hlt32 hil
    rw [E.out]
    go_enter Tryd.func38, Tryd.ntmps38
    go_wp2_with (fail)
    refine (CL.out _).mono ?_
    rintro e w1 ⟨v1, rfl, own1, hb1⟩
    obtain ⟨A1, c1, rfl, -, -⟩ := own_form own1
    go_wp2_with (fail)
    go_ret
    exact RetV.of rfl hb1
  | cons n0 l0 =>
    have E := Lib.hid (show showB s = joinC 44 (l.map tens) by rw [hl]; exact showB_cons (by rw [← hl, hlc]; simp))
    have hpos : 0 < l.length := by rw [hlc]; simp
    rw [E.out]
    clear hlc E hl
    go_enter Tryd.func38, Tryd.ntmps38
    go_wp2_with (fail)
    refine (CL.out _).mono ?_
    rintro e w1 ⟨v1, rfl, own1, hb1⟩
    obtain ⟨A1, c1, rfl, hin⟩ := In.of_own ic_len own1 (by simp; omega)
    rw [List.length_map]
    have hlm : (l.map Int.ofNat).length = l.length := List.length_map ..
    obtain ⟨b, off, rfl, hbb, hrow⟩ := hin.at (i := 0) (by rw [hlm]; exact hpos)
    have hC := hin.2.1
    have hLc := hin.1
    rw [hlm] at hLc
    have CELL := Lib.hid (show ∀ k (hk : k < l.length), w1.cell? ⟨b, off + k, none⟩ = some (.int .i64 (l[k] : Nat)) from fun k hk => by
      have := hrow k (by rw [hlm]; exact hk) 0 _ rfl
      simpa using this)
    have e0 := CELL.out 0 hpos
    simp only [Nat.add_zero] at e0
    have B1 := Lib.hid hb1
    have hz1 := hb1.size
    clear hb1 own1 hrow hin
    have h0lt := hlt32 _ (List.getElem_mem hpos)
    go_wp2_with (fail)
    refine (c_ref03_Tens l[0] (by omega) _).mono ?_
    rintro e w2 ⟨rfl, hb2⟩
    have B2 := Lib.hid hb2
    clear hb2
    go_wp2_with (fail)
    go_loopw [4, 5] (fun t i wr => ∃ (k : Nat) (acc : List UInt8), 1 ≤ k ∧ k ≤ l.length ∧ i = .int .i64 k ∧ t = .string (str acc) ∧ Hid (acc = joinC 44 ((l.take k).map tens)) ∧ Hid (Below w1.heap.size w1 wr)) (fun _ i _ => l.length - (intOf i).toNat)
    case atStart => exact ⟨1, tens l[0], by omega, by omega, rfl, rfl, by show _ = _; rw [List.take_succ_eq_append_getElem hpos]; simp [joinC], B2.out⟩
    case round =>
      obtain ⟨k, acc, hk1, hk, rfl, rfl, HA, B3⟩ := hrel
      have hacc : acc.length ≤ 3 * l.length := by
        rw [HA.out]
        have := joinT_len (l.take k) (fun n hn => hlt32 n (List.mem_of_mem_take hn))
        rw [List.length_take] at this
        omega
      by_cases hlt : k < l.length
      · have d1 : decide (k < l.length) = true := by simpa using hlt
        have ek := (B3.out.cell (p := ⟨b, off + k, none⟩) hbb).trans (CELL.out k hlt)
        have hk32 := hlt32 _ (List.getElem_mem hlt)
        have H2 := Lib.hid (show acc ++ 44 :: tens l[k] = joinC 44 ((l.take (k + 1)).map tens) by
          rw [List.take_succ_eq_append_getElem hlt, List.map_append, List.map_cons, List.map_nil, joinC_snoc _ _ (by
            intro e
            have := congrArg List.length e
            rw [List.length_map, List.length_take] at this
            simp only [List.length_nil] at this
            omega), HA.out])
        have CT := Lib.hid (fun w' => c_ref03_Tens l[k] (by omega) w')
        obtain ⟨x, hx⟩ : ∃ x, tens l[k] = x := ⟨_, rfl⟩
        have hxl : x.length ≤ 2 := by rw [← hx]; exact tens_len _ 2 (by omega) (by omega)
        rw [hx] at CT H2
        clear HA hx
        go_wp2_with (fail)
        refine (CT.out _).mono ?_
        rintro e w4 ⟨rfl, hb4⟩
        have B4 := Lib.hid (B3.out.trans (hb4.mono B3.out.size))
        clear hb4 B3
        go_wp2_with (fail)
        go_roundw
        case rel => exact ⟨k + 1, _, by omega, by omega, by go_num, by first | rfl | (simp; done), by first | exact H2.out | (show _ = _; rw [← H2.out]; simp), B4.out⟩
        case measure => simp [intOf]; omega
      · obtain rfl : k = l.length := by omega
        have d1 : decide (l.length < l.length) = false := by simp
        have H2 := Lib.hid (show acc = joinC 44 (l.map tens) by rw [HA.out, List.take_length])
        clear HA hlt
        go_wp2_with (fail)
        go_ret
        exact RetV.str H2.out (B1.out.trans (B3.out.mono hz1))
end Go.Proofs.YtkofjkadmknmjaaDoor
