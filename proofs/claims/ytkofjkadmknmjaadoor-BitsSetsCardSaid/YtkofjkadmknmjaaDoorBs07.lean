/-
  Lemmas (walks and plain laws), in one text.
-/
import Derived.Test.YtkofjkadmknmjaaDoorBs06
import Derived.Test.YtkofjkadmknmjaaDoorRows
import Derived.WalkKit
import Derived.WalkSpells
import Derived.WalkLawsBesides
import Derived.Lib.Hide
import Derived.Deep.QuietTactic
import Derived.BigQuiet
import Derived.Maps.AppendAt
import Derived.WalkSmall
import Derived.ProofKit
import Derived.OpenShut
import Derived.JoinedCond
import Derived.Deep.Slices
import Derived.Deep.Fields
import Derived.Carry
import Derived.HandedShaped
import Derived.Shelf.Small.Wraps
import Derived.Shelf.Utf8.RuneCount
import Derived.Shelf.Strconv.Itoa0
import Derived.Shelf.Strconv.Itoa1
import Derived.Shelf.LaysM
import Derived.Shelf.Strconv.Itoa2
import Derived.Shelf.Strconv.Itoa3
import Derived.Shelf.Strings.Search1
import Derived.Shelf.Strings.Search2
import Derived.Shelf.Strings.Search3
import Derived.Shelf.Strings.Count
import Derived.Shelf.Strings.Shaped
import Derived.Shelf.Strings.Prefix
import Derived.Shelf.Strings.Split
import Derived.Shelf.Strings.SplitShaped
import Derived.Shelf.Unicode.DecodeSlow
import Derived.Test.YtkofjkadmknmjaaDoorProg
import Derived.Deep.AppendSrc
import Derived.Lib.AppendStr
import Derived.Laws.BytesArg
import Derived.Lib.AppendIntMem
import Derived.Lib.ItoaLen
import Derived.Lib.TrailingZeros
import Derived.Lib.SplitLaws
import Derived.Lib.ItoaNum
import Derived.Shelf.Strings.PiecesUse
import Derived.Shelf.Spec.TrailingZeros
import Derived.RangeFuncNested
import Derived.RangeFuncBound
import Derived.RangeFuncCalls
import Derived.RangeFuncLeaves
import Derived.Shelf.Abstract
import Derived.Shelf.RegionOpen
import Derived.OwnWalkIn
import Derived.TacticsInMore
import Derived.LoopNIn
import Derived.LoopIn
import Derived.Test.YtkofjkadmknmjaaDoorTie
import Derived.Lib.LaidTab
import Derived.LaidMore
import Derived.Lay
import Derived.Stop.LaidErr
import Derived.SevenTiedAt
import Derived.Test.YtkofjkadmknmjaaDoorCards
import Derived.StillTail
import Derived.OrdersIn
import Derived.ControlIn
import Derived.Lib.BitFns
import Derived.Deep.CutBlock
import Derived.Deep.DeepCutAuto
import Derived.Laws.IdiomStrings
import Derived.Outline
import Derived.IntWalk
import Derived.Lib.Tables
namespace Go.Proofs.YtkofjkadmknmjaaDoor
open Go.RowKit

set_option maxHeartbeats 1000000 in
set_option maxRecDepth 4000 in
theorem c_ref03_List (s : Nat) (hs : s < 4294967296) (w : World) : Calls Tryd.prog 45 #[.int .u32 s] w (RetS 1 ic 3 w ((idx s).map Int.ofNat)) := by
  go_enter Tryd.func45, Tryd.ntmps45
  go_wp2_with (fail)
  go_loopw [3, 4] (fun v i wr => ∃ (k : Nat) (l : List Int), k ≤ 32 ∧ i = .int .i64 k ∧ Hid (l = (((List.range k).filter s.testBit).map Int.ofNat)) ∧ l.length ≤ k ∧ Hid (wr.ownsRow w.heap.size 3 1 v l.length (l.flatMap ic)) ∧ Hid (Below w.heap.size w wr)) (fun _ i _ => 32 - (intOf i).toNat)
  case atStart => exact ⟨0, [], by omega, rfl, rfl, by simp, World.ownsRow_lit w #[] 0 (Nat.le_refl _) (by unfold maxLen; omega) (by simp), (by repeat (first | exact Below.refl _ _ | refine Below.drew ?_ | refine Below.alloc ?_ (by first | omega | (simp; done) | (simp; omega)) _ | refine Below.setCell ?_ (by first | omega | (simp; done) | (simp; omega)) _ | refine Below.trans ?_ (Below.mono (by assumption) (by first | omega | (simp; done) | (simp; omega)))))⟩
  case round =>
    obtain ⟨k, l, hk, rfl, HL, hlk, O, B1⟩ := hrel
    obtain ⟨A9, c9, rfl, -, -⟩ := own_form O.out
    have hz := B1.out.size
    by_cases hlt : k < 32
    · have d1 : decide ((k : Int) < 32) = true := by simp; omega
      have HH := Lib.hid (fun w' => c_ref03_Has s k hs (by omega) w')
      cases hb : s.testBit k
      · replace HH := Lib.hid (by have := HH.out; rw [hb] at this; exact this)
        have HL2 := Lib.hid (show l = (((List.range (k + 1)).filter s.testBit).map Int.ofNat) by rw [List.range_succ, List.filter_append, List.map_append, HL.out]; simp [hb])
        clear hb
        go_wp2_with (fail)
        refine (HH.out _).mono ?_
        rintro e w1 ⟨rfl, hb1⟩
        have B2 := Lib.hid (B1.out.trans (hb1.mono hz))
        have O2 := Lib.hid (own_below O.out hb1)
        clear hb1 O B1
        go_wp2_with (fail)
        go_roundw
        case rel => exact ⟨k + 1, l, by omega, by go_num, HL2.out, by omega, O2.out, B2.out⟩
        case measure => simp [intOf]; omega
      · replace HH := Lib.hid (by have := HH.out; rw [hb] at this; exact this)
        have HL2 := Lib.hid (show l ++ [(k : Int)] = (((List.range (k + 1)).filter s.testBit).map Int.ofNat) by rw [List.range_succ, List.filter_append, List.map_append, HL.out]; simp [hb])
        clear hb
        go_wp2_with (fail)
        refine (HH.out _).mono ?_
        rintro e w1 ⟨rfl, hb1⟩
        have B2 := Lib.hid (B1.out.trans (hb1.mono hz))
        have O2 := Lib.hid (own_below O.out hb1)
        have hz2 := B2.out.size
        clear hb1 O B1
        go_wp2_with ((at_builtin; refine Stop.out ?_))
        refine Stop.mk (wpList_app _ rfl _ _ elemI rfl w.heap.size (.slice A9 l.length c9) l.length _ rfl (own_below O2.out ((Below.refl _ _).alloc (Nat.le_refl _) _)) _ 1 1 (ic (k : Int)) rfl (Src.new _ (ic (k : Int)) _ 1 rfl) (by simp [ic, Value.oneCell']) (by omega) (by simp; omega) ?_)
        intro v4 w4 own4 _ hb4 _
        have B4 := Lib.hid (B2.out.trans ((((Below.refl _ _).alloc hz2 _)).trans hb4))
        have O4 := Lib.hid (show w4.ownsRow w.heap.size 3 1 v4 ((l ++ [(k : Int)]).length) ((l ++ [(k : Int)]).flatMap ic) by simpa using own4)
        clear own4 hb4 O2 B2
        go_wp2_with (fail)
        go_roundw
        case rel => exact ⟨k + 1, l ++ [(k : Int)], by omega, by go_num, HL2.out, by simp; omega, O4.out, B4.out⟩
        case measure => simp [intOf]; omega
    · obtain rfl : k = 32 := by omega
      have d1 : decide ((32 : Int) < 32) = false := by simp
      clear hlt
      go_wp2_with (fail)
      go_ret
      exact RetS.of O.out (Nat.le_refl _) HL.out B1.out

set_option maxHeartbeats 1000000 in
set_option maxRecDepth 4000 in
theorem c_ref03_Within (a b : Nat) (ha : a < 4294967296) (hb : b < 4294967296) (w : World) : Calls Tryd.prog 50 #[.int .u32 a, .int .u32 b] w (RetV w (.bool (within a b))) := by
  go_enter Tryd.func50, Tryd.ntmps50
  go_wp2_with (fail)
  go_loopw [5] (fun i wr => ∃ k : Nat, k ≤ 32 ∧ i = .int .i64 k ∧ Hid (∀ j, j < k → (!a.testBit j || b.testBit j) = true) ∧ Hid (Below w.heap.size w wr)) (fun i _ => 32 - (intOf i).toNat)
  case atStart => exact ⟨0, by omega, rfl, fun j hj => by omega, Below.refl _ _⟩
  case round =>
    obtain ⟨k, hk, rfl, N, B1⟩ := hrel
    have hz := B1.out.size
    by_cases hlt : k < 32
    · have d1 : decide ((k : Int) < 32) = true := by simp; omega
      have HA := Lib.hid (fun w' => c_ref03_Has a k ha (by omega) w')
      have HB := Lib.hid (fun w' => c_ref03_Has b k hb (by omega) w')
      cases ea : a.testBit k
      · replace HA := Lib.hid (by have := HA.out; rw [ea] at this; exact this)
        have N2 := Lib.hid (show ∀ j, j < k + 1 → (!a.testBit j || b.testBit j) = true from fun j hj => by
          rcases Nat.lt_or_eq_of_le (Nat.le_of_lt_succ hj) with h | h
          · exact N.out j h
          · subst h; rw [ea]; rfl)
        clear ea N
        go_wp2_with (fail)
        refine (HA.out _).mono ?_
        rintro e w1 ⟨rfl, hb1⟩
        have B2 := Lib.hid (B1.out.trans (hb1.mono hz))
        clear hb1 B1
        go_wp2_with (fail)
        go_roundw
        case rel => exact ⟨k + 1, by omega, by go_num, N2.out, B2.out⟩
        case measure => simp [intOf]; omega
      · replace HA := Lib.hid (by have := HA.out; rw [ea] at this; exact this)
        cases eb : b.testBit k
        · replace HB := Lib.hid (by have := HB.out; rw [eb] at this; exact this)
          have F := Lib.hid (show within a b = false by
            rw [Bool.eq_false_iff]
            intro h
            unfold within at h
            have := List.all_eq_true.1 h k (List.mem_range.2 hlt)
            rw [ea, eb] at this
            cases this)
          clear ea eb N
          go_wp2_with (fail)
          refine (HA.out _).mono ?_
          rintro e w1 ⟨rfl, hb1⟩
          have hz1 := hb1.size
          go_wp2_with (fail)
          refine (HB.out _).mono ?_
          rintro e w2 ⟨rfl, hb2⟩
          go_wp2_with (fail)
          go_ret
          exact RetV.bool F.out.symm (B1.out.trans ((hb1.trans (hb2.mono hz1)).mono hz))
        · replace HB := Lib.hid (by have := HB.out; rw [eb] at this; exact this)
          have N2 := Lib.hid (show ∀ j, j < k + 1 → (!a.testBit j || b.testBit j) = true from fun j hj => by
            rcases Nat.lt_or_eq_of_le (Nat.le_of_lt_succ hj) with h | h
            · exact N.out j h
            · subst h; rw [ea, eb]; rfl)
          clear ea eb N
          go_wp2_with (fail)
          refine (HA.out _).mono ?_
          rintro e w1 ⟨rfl, hb1⟩
          have hz1 := hb1.size
          go_wp2_with (fail)
          refine (HB.out _).mono ?_
          rintro e w2 ⟨rfl, hb2⟩
          have B2 := Lib.hid (B1.out.trans ((hb1.trans (hb2.mono hz1)).mono hz))
          clear hb1 hb2 B1
          go_wp2_with (fail)
          go_roundw
          case rel => exact ⟨k + 1, by omega, by go_num, N2.out, B2.out⟩
          case measure => simp [intOf]; omega
    · obtain rfl : k = 32 := by omega
      have d1 : decide ((32 : Int) < 32) = false := by simp
      have F := Lib.hid (show within a b = true by
        unfold within
        exact List.all_eq_true.2 fun j hj => N.out j (List.mem_range.1 hj))
      clear hlt N
      go_wp2_with (fail)
      go_ret
      exact RetV.bool F.out.symm B1.out
/-- The library's count of bits. -/
theorem idx_len_int {s : Nat} (h : s < 4294967296) : Lib.pop8 ((s : Int) / 16777216) + Lib.pop8 (((s / 65536 % 256 : Nat) : Int)) + Lib.pop8 (((s / 256 % 256 : Nat) : Int)) + Lib.pop8 (((s % 256 : Nat) : Int)) = ((idx s).length : Int) := by
  have e := idx_count h
  have p : ∀ n : Nat, n < 256 → Lib.pop8 (n : Int) = (Lib.onesCount n : Int) := fun n hn => Lib.pop8_eq ⟨n, hn⟩
  rw [show ((s : Int) / 16777216) = ((s / 16777216 : Nat) : Int) by omega, p _ (by omega), p _ (by omega), p _ (by omega), p _ (by omega)]
  omega
end Go.Proofs.YtkofjkadmknmjaaDoor
namespace Go.Proofs.YtkofjkadmknmjaaDoor
open Go.RowKit

theorem showB_cons {s : Nat} (h : idx s ≠ []) : showB s = joinC 44 ((idx s).map tens) := by
  unfold showB
  by_cases h0 : s = 0
  · subst h0; exact absurd idx_zero h
  · rw [if_neg h0]
end Go.Proofs.YtkofjkadmknmjaaDoor
namespace Go.Proofs.YtkofjkadmknmjaaDoor
open Go.RowKit

theorem CutAt.len {c : UInt8} {t : List UInt8} {ps : List (List UInt8)} {f i : Nat} (h : CutAt c t ps f i) : ps.length ≤ t.length := by
  have h1 := cuts_len c t
  rw [h.2.2, List.length_append] at h1
  have h2 : 1 ≤ (consHead ((t.drop f).take (i - f)) (cuts c (t.drop i))).length := by
    cases hc : cuts c (t.drop i) with
    | nil => simp [consHead]
    | cons a r => simp [consHead]
  omega
def setV (t : List UInt8) : Value := .tuple #[.int .u32 ((readB t).getD 0 : Nat), .bool (readB t).isSome]
theorem setV_some {t : List UInt8} {s : Nat} (h : readB t = some s) : setV t = .tuple #[.int .u32 s, .bool true] := by unfold setV; rw [h]; rfl
theorem setV_none {t : List UInt8} (h : readB t = none) : setV t = .tuple #[.int .u32 0, .bool false] := by unfold setV; rw [h]; rfl
theorem bitN_of {n : Nat} (h : n < 32) : bitN (n : Int) = 2 ^ n := bitN_nat (by omega)
end Go.Proofs.YtkofjkadmknmjaaDoor
namespace Go.Proofs.YtkofjkadmknmjaaDoor
open Go.RowKit

set_option maxHeartbeats 1000000 in
set_option maxRecDepth 4000 in
theorem c_bits_Read (t : List UInt8) (ht : t.length ≤ 1000000) (w : World) (hM : MaxV w) : Calls Tryd.prog 33 #[.string (str t)] w (RetV w (setV t)) := by
  by_cases h45 : t = [45]
  · rw [setV_some (show readB t = some 0 by unfold readB; rw [if_pos h45])]
    subst h45
    go_enter Tryd.func33, Tryd.ntmps33
    go_wp2_with (fail)
    go_ret2
    exact RetV.of rfl (by repeat (first | exact Below.refl _ _ | refine Below.drew ?_ | refine Below.alloc ?_ (by first | omega | (simp; done) | (simp; omega)) _ | refine Below.setCell ?_ (by first | omega | (simp; done) | (simp; omega)) _ | refine Below.trans ?_ (Below.mono (by assumption) (by first | omega | (simp; done) | (simp; omega)))))
  · have RB := Lib.hid (show readB t = readP (cuts 44 t) 0 (-1) by unfold readB; rw [if_neg h45])
    have e45 : (t == [45]) = false := by simpa using h45
    have CS := Lib.hid (c_Split t 44 w hM (by omega))
    have hcl := cuts_len 44 t
    have hpart := Lib.hid (cuts_part 44 t)
    obtain ⟨l, hl⟩ : ∃ l, cuts 44 t = l := ⟨_, rfl⟩
    rw [hl] at CS hpart hcl RB
    clear hl h45
    go_enter Tryd.func33, Tryd.ntmps33
    go_wp2_with (fail)
    refine CS.out.mono ?_
    rintro e w1 ⟨A1, c1, rfl, hin, hb1⟩
    have hC := hin.2.1
    have hLc := hin.1
    have HI := Lib.hid hin
    have B1 := Lib.hid hb1
    have hz1 := hb1.size
    clear hb1 hin
    go_wp2_with (fail)
    go_loopw [4, 5, 15] (fun s la i wr => ∃ (k m : Nat) (last : Int), i = .int .i64 k ∧ s = .int .u32 m ∧ la = .int .i64 last ∧ k ≤ l.length ∧ m < 4294967296 ∧ Hid (readP l 0 (-1) = readP (l.drop k) m last) ∧ Hid (Below w1.heap.size w1 wr)) (fun _ _ i _ => l.length - (intOf i).toNat)
    case atStart => exact ⟨0, 0, -1, rfl, rfl, rfl, by omega, by omega, rfl, Below.refl _ _⟩
    case round =>
      obtain ⟨k, m, last, rfl, rfl, rfl, hk, hm, HR, B2⟩ := hrel
      by_cases hlt : k < l.length
      · have d1 : decide (k < l.length) = true := by simpa using hlt
        obtain ⟨b, off, hA, hbb, hrow⟩ := HI.out.at (i := k) hlt
        obtain rfl : A1 = some ⟨b, off, none⟩ := hA
        have ek := (B2.out.cell (p := ⟨b, off + k, none⟩) hbb).trans (show w1.cell? ⟨b, off + k, none⟩ = some (.string (str l[k])) by have := hrow k hlt 0 _ rfl; simpa using this)
        have hpl := hpart.out l[k] (List.getElem_mem hlt)
        have CI := Lib.hid (fun w' => c_bits_Int l[k] 31 w' (by omega))
        have HR2 := Lib.hid (show readP l 0 (-1) = match intR l[k] 31 with | none => none | some n => if (n : Int) ≤ last then none else readP (l.drop (k + 1)) (m ||| 2 ^ n) n by rw [HR.out, List.drop_eq_getElem_cons hlt]; rfl)
        have hk0 : (0 : Int) ≤ (k : Int) := by omega
        have hk1 : (k : Int) < (l.length : Int) := by omega
        clear hrow HR
        cases hi : intR l[k] 31 with
        | none =>
          replace CI := Lib.hid (by have := CI.out; rw [(intR_none hi).1, (intR_none hi).2] at this; exact this)
          have V := Lib.hid (setV_none (show readB t = none by rw [RB.out, HR2.out, hi]))
          clear hi HR2
          go_wp2_with (fail)
          refine (CI.out _).mono ?_
          rintro e w4 ⟨rfl, hb4⟩
          have B4 := Lib.hid (B2.out.trans (hb4.mono B2.out.size))
          clear hb4 B2
          go_wp2_with (fail)
          go_ret2
          rw [V.out]
          exact RetV.of rfl (B1.out.trans (B4.out.mono hz1))
        | some n =>
          have hn32 : n < 32 := by have := (tens_intR hi).2.2; omega
          replace CI := Lib.hid (by have := CI.out; rw [(intR_some hi).1, (intR_some hi).2] at this; exact this)
          replace HR2 := Lib.hid (show readP l 0 (-1) = if (n : Int) ≤ last then none else readP (l.drop (k + 1)) (m ||| 2 ^ n) n by rw [HR2.out, hi])
          clear hi
          by_cases hle : (n : Int) ≤ last
          · have d2 : decide ((n : Int) ≤ last) = true := by simpa using hle
            have V := Lib.hid (setV_none (show readB t = none by rw [RB.out, HR2.out, if_pos hle]))
            clear HR2 hle
            go_wp2_with (fail)
            refine (CI.out _).mono ?_
            rintro e w4 ⟨rfl, hb4⟩
            have B4 := Lib.hid (B2.out.trans (hb4.mono B2.out.size))
            clear hb4 B2
            go_wp2_with (fail)
            go_ret2
            rw [V.out]
            exact RetV.of rfl (B1.out.trans (B4.out.mono hz1))
          · have d2 : decide ((n : Int) ≤ last) = false := by simpa using hle
            replace HR2 := Lib.hid (show readP l 0 (-1) = readP (l.drop (k + 1)) (m ||| 2 ^ n) n by rw [HR2.out, if_neg hle])
            have CB := Lib.hid (fun w' => c_bits_bitA (n : Int) w')
            rw [bitN_of hn32] at CB
            have h2n : (2 : Nat) ^ n < 4294967296 := by
              have : (2 : Nat) ^ n < 2 ^ 32 := Nat.pow_lt_pow_right (by omega) hn32
              omega
            have hm2 : m ||| 2 ^ n < 4294967296 := Nat.or_lt_two_pow (n := 32) hm h2n
            obtain ⟨q, hq⟩ : ∃ q, 2 ^ n = q := ⟨_, rfl⟩
            rw [hq] at CB h2n hm2
            replace HR2 := Lib.hid (by have := HR2.out; rw [hq] at this; exact this)
            have ho := or_u32 m q hm h2n
            clear hle hq
            go_wp2_with (fail)
            refine (CI.out _).mono ?_
            rintro e w4 ⟨rfl, hb4⟩
            have B4 := Lib.hid (B2.out.trans (hb4.mono B2.out.size))
            clear hb4 B2
            go_wp2_with (fail)
            refine (CB.out _).mono ?_
            rintro e w5 ⟨rfl, hb5⟩
            have B5 := Lib.hid (B4.out.trans (hb5.mono B4.out.size))
            clear hb5 B4
            go_wp2_with (fail)
            go_roundw
            case rel => exact ⟨k + 1, m ||| q, n, by go_num, rfl, rfl, by omega, hm2, HR2.out, B5.out⟩
            case measure => simp [intOf]; omega
      · obtain rfl : k = l.length := by omega
        have d1 : decide (l.length < l.length) = false := by simp
        have V := Lib.hid (setV_some (show readB t = some m by rw [RB.out, HR.out, List.drop_length]; rfl))
        clear hlt HR
        go_wp2_with (fail)
        go_ret2
        rw [V.out]
        exact RetV.of rfl (B1.out.trans (B2.out.mono hz1))
end Go.Proofs.YtkofjkadmknmjaaDoor
