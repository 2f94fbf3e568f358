/-
  Lemmas (walks and plain laws), in one text.
-/
import Derived.Test.YtkofjkadmknmjaaDoorMt10
import Derived.Test.YtkofjkadmknmjaaDoorRows
import Derived.WalkKit
import Derived.WalkSpells
import Derived.WalkLawsBesides
import Derived.Lib.Hide
import Derived.Deep.QuietTactic
import Derived.BigQuiet
import Derived.Maps.AppendAt
import Derived.WalkSmall
import Derived.ProofKit
import Derived.OpenShut
import Derived.JoinedCond
import Derived.Deep.Slices
import Derived.Deep.Fields
import Derived.Carry
import Derived.HandedShaped
import Derived.Shelf.Small.Wraps
import Derived.Shelf.Utf8.RuneCount
import Derived.Shelf.Strconv.Itoa0
import Derived.Shelf.Strconv.Itoa1
import Derived.Shelf.LaysM
import Derived.Shelf.Strconv.Itoa2
import Derived.Shelf.Strconv.Itoa3
import Derived.Shelf.Strings.Search1
import Derived.Shelf.Strings.Search2
import Derived.Shelf.Strings.Search3
import Derived.Shelf.Strings.Count
import Derived.Shelf.Strings.Shaped
import Derived.Shelf.Strings.Prefix
import Derived.Shelf.Strings.Split
import Derived.Shelf.Strings.SplitShaped
import Derived.Shelf.Unicode.DecodeSlow
import Derived.Test.YtkofjkadmknmjaaDoorProg
import Derived.Deep.AppendSrc
import Derived.Lib.AppendStr
import Derived.Laws.BytesArg
import Derived.Lib.AppendIntMem
import Derived.Lib.ItoaLen
import Derived.Lib.TrailingZeros
import Derived.Lib.SplitLaws
import Derived.Lib.ItoaNum
import Derived.Shelf.Strings.PiecesUse
import Derived.Shelf.Spec.TrailingZeros
import Derived.RangeFuncNested
import Derived.RangeFuncBound
import Derived.RangeFuncCalls
import Derived.RangeFuncLeaves
import Derived.Shelf.Abstract
import Derived.Shelf.RegionOpen
import Derived.OwnWalkIn
import Derived.TacticsInMore
import Derived.LoopNIn
import Derived.LoopIn
import Derived.Test.YtkofjkadmknmjaaDoorTie
import Derived.Lib.LaidTab
import Derived.LaidMore
import Derived.Lay
import Derived.Stop.LaidErr
import Derived.SevenTiedAt
import Derived.Test.YtkofjkadmknmjaaDoorCards
import Derived.StillTail
import Derived.OrdersIn
import Derived.ControlIn
import Derived.Lib.BitFns
import Derived.Deep.CutBlock
import Derived.Deep.DeepCutAuto
import Derived.Laws.IdiomStrings
import Derived.Outline
import Derived.IntWalk
import Derived.Lib.Tables
import Derived.Lib.Strings
namespace Go.Proofs.YtkofjkadmknmjaaDoor
open Go.RowKit

theorem ofL_snoc (l : List Nat) (n : Nat) : ofL (l ++ [n]) = ofL l ||| 2 ^ n := by unfold ofL; rw [List.foldl_append]; rfl
theorem range_filter (p : Nat → Bool) (k : Nat) : (List.range (k + 1)).filter p = if p k then (List.range k).filter p ++ [k] else (List.range k).filter p := by
  rw [List.range_succ, List.filter_append]
  cases h : p k <;> simp [h]
theorem rest_bits {m : Nat} (hm : m < 4294967296) : ofL ((List.range 9).filter fun i => !m.testBit i) = 511 &&& (4294967295 - m) := by
  refine Nat.eq_of_testBit_eq fun i => ?_
  have e : 4294967295 - m = 2 ^ 32 - (m + 1) := by omega
  rw [ofL_bit, Nat.testBit_and, e, Nat.testBit_two_pow_sub_succ hm, show (511 : Nat) = 2 ^ 9 - 1 from rfl, Nat.testBit_two_pow_sub_one, Bool.eq_iff_iff, decide_eq_true_eq, List.mem_filter, List.mem_range]
  by_cases hi : i < 9
  · have : i < 32 := by omega
    simp [hi, this]
  · simp [hi]
theorem both_bits {a b : Nat} (ha : a ≤ 511) : ofL ((List.range 9).filter fun i => a.testBit i && b.testBit i) = a &&& b := by
  refine Nat.eq_of_testBit_eq fun i => ?_
  rw [ofL_bit, Nat.testBit_and, Bool.eq_iff_iff, decide_eq_true_eq, List.mem_filter, List.mem_range]
  by_cases hi : i < 9
  · simp [hi]
  · have : a.testBit i = false := Nat.testBit_lt_two_pow (Nat.lt_of_lt_of_le (show a < 2 ^ 9 by omega) (Nat.pow_le_pow_right (n := 2) (by omega) (Nat.le_of_not_lt hi)))
    simp [hi, this]
theorem ofL_lt9 (p : Nat → Bool) (k : Nat) (hk : k ≤ 9) : ofL ((List.range k).filter p) < 4294967296 := ofL_lt fun n hn => by
  have := List.mem_range.1 (List.mem_filter.1 hn).1
  omega
set_option maxHeartbeats 1000000 in
set_option maxRecDepth 4000 in
theorem c_ref05_Rest (m : Nat) (hm : m < 4294967296) (w : World) : Calls Tryd.prog 66 #[.int .u32 m] w (RetV w (.int .u32 (511 &&& (4294967295 - m) : Nat))) := by
  have E := Lib.hid (rest_bits hm)
  rw [← E.out]
  go_enter Tryd.func66, Tryd.ntmps66
  go_wp2_with (fail)
  go_loopw [3, 4] (fun s i wr => ∃ (k o : Nat), k ≤ 9 ∧ i = .int .i64 k ∧ s = .int .u32 o ∧ Hid (o = ofL ((List.range k).filter fun i => !m.testBit i)) ∧ Hid (Below w.heap.size w wr)) (fun _ i _ => 9 - (intOf i).toNat)
  case atStart => exact ⟨0, 0, by omega, rfl, rfl, rfl, Below.refl _ _⟩
  case round =>
    obtain ⟨k, o, hk, rfl, rfl, HO, B1⟩ := hrel
    have hz := B1.out.size
    have ho : o < 4294967296 := by rw [HO.out]; exact ofL_lt9 _ k hk
    by_cases hlt : k < 9
    · have d1 : decide ((k : Int) ≤ 8) = true := by simp; omega
      have CH := Lib.hid (fun w' => c_ref03_Has m k hm (by omega) w')
      have HR := Lib.hid (range_filter (fun i => !m.testBit i) k)
      cases hb : m.testBit k
      · rw [hb] at CH
        have CW := Lib.hid (fun w' => c_ref03_WithA o k ho w')
        rw [bitN_of (show k < 32 by omega)] at CW
        obtain ⟨q, hq⟩ : ∃ q, o ||| 2 ^ k = q := ⟨_, rfl⟩
        rw [hq] at CW
        have HN := Lib.hid (show q = ofL ((List.range (k + 1)).filter fun i => !m.testBit i) by rw [HR.out, if_pos (by rw [hb]; rfl), ofL_snoc, ← HO.out, hq])
        clear hb hq HO HR
        go_wp2_with (fail)
        refine (CH.out _).mono ?_
        rintro e w1 ⟨rfl, hb1⟩
        have B2 := Lib.hid (B1.out.trans (hb1.mono hz))
        clear hb1 B1
        go_wp2_with (fail)
        refine (CW.out _).mono ?_
        rintro e w2 ⟨rfl, hb2⟩
        have B3 := Lib.hid (B2.out.trans (hb2.mono B2.out.size))
        clear hb2 B2
        go_wp2_with (fail)
        go_roundw
        case rel => exact ⟨k + 1, q, by omega, by go_num, rfl, HN.out, B3.out⟩
        case measure => simp [intOf]; omega
      · rw [hb] at CH
        have HN := Lib.hid (show o = ofL ((List.range (k + 1)).filter fun i => !m.testBit i) by rw [HR.out, if_neg (by rw [hb]; simp), ← HO.out])
        clear hb HO HR
        go_wp2_with (fail)
        refine (CH.out _).mono ?_
        rintro e w1 ⟨rfl, hb1⟩
        have B2 := Lib.hid (B1.out.trans (hb1.mono hz))
        clear hb1 B1
        go_wp2_with (fail)
        go_roundw
        case rel => exact ⟨k + 1, o, by omega, by go_num, rfl, HN.out, B2.out⟩
        case measure => simp [intOf]; omega
    · obtain rfl : k = 9 := by omega
      have d1 : decide ((9 : Int) ≤ 8) = false := by simp
      clear hlt
      go_wp2_with (fail)
      go_ret
      exact RetV.int (by rw [HO.out]) B1.out
set_option maxHeartbeats 1000000 in
set_option maxRecDepth 4000 in
theorem c_ref05_Both (a b : Nat) (ha : a ≤ 511) (hbm : b < 4294967296) (w : World) : Calls Tryd.prog 68 #[.int .u32 a, .int .u32 b] w (RetV w (.int .u32 (a &&& b : Nat))) := by
  have E := Lib.hid (both_bits (b := b) ha)
  rw [← E.out]
  go_enter Tryd.func68, Tryd.ntmps68
  go_wp2_with (fail)
  go_loopw [5, 6] (fun s i wr => ∃ (k o : Nat), k ≤ 9 ∧ i = .int .i64 k ∧ s = .int .u32 o ∧ Hid (o = ofL ((List.range k).filter fun i => a.testBit i && b.testBit i)) ∧ Hid (Below w.heap.size w wr)) (fun _ i _ => 9 - (intOf i).toNat)
  case atStart => exact ⟨0, 0, by omega, rfl, rfl, rfl, Below.refl _ _⟩
  case round =>
    obtain ⟨k, o, hk, rfl, rfl, HO, B1⟩ := hrel
    have hz := B1.out.size
    have ho : o < 4294967296 := by rw [HO.out]; exact ofL_lt9 _ k hk
    by_cases hlt : k < 9
    · have d1 : decide ((k : Int) ≤ 8) = true := by simp; omega
      have CA := Lib.hid (fun w' => c_ref03_Has a k (by omega) (by omega) w')
      have CB := Lib.hid (fun w' => c_ref03_Has b k hbm (by omega) w')
      have HR := Lib.hid (range_filter (fun i => a.testBit i && b.testBit i) k)
      cases ea : a.testBit k
      · rw [ea] at CA
        have HN := Lib.hid (show o = ofL ((List.range (k + 1)).filter fun i => a.testBit i && b.testBit i) by rw [HR.out, if_neg (by rw [ea]; simp), ← HO.out])
        clear ea HO HR
        go_wp2_with (fail)
        refine (CA.out _).mono ?_
        rintro e w1 ⟨rfl, hb1⟩
        have B2 := Lib.hid (B1.out.trans (hb1.mono hz))
        clear hb1 B1
        go_wp2_with (fail)
        go_roundw
        case rel => exact ⟨k + 1, o, by omega, by go_num, rfl, HN.out, B2.out⟩
        case measure => simp [intOf]; omega
      · rw [ea] at CA
        cases eb : b.testBit k
        · rw [eb] at CB
          have HN := Lib.hid (show o = ofL ((List.range (k + 1)).filter fun i => a.testBit i && b.testBit i) by rw [HR.out, if_neg (by rw [ea, eb]; simp), ← HO.out])
          clear ea eb HO HR
          go_wp2_with (fail)
          refine (CA.out _).mono ?_
          rintro e w1 ⟨rfl, hb1⟩
          have hz1 := hb1.size
          go_wp2_with (fail)
          refine (CB.out _).mono ?_
          rintro e w2 ⟨rfl, hb2⟩
          have B2 := Lib.hid (B1.out.trans ((hb1.trans (hb2.mono hz1)).mono hz))
          clear hb1 hb2 B1
          go_wp2_with (fail)
          go_roundw
          case rel => exact ⟨k + 1, o, by omega, by go_num, rfl, HN.out, B2.out⟩
          case measure => simp [intOf]; omega
        · rw [eb] at CB
          have CW := Lib.hid (fun w' => c_ref03_WithA o k ho w')
          rw [bitN_of (show k < 32 by omega)] at CW
          obtain ⟨q, hq⟩ : ∃ q, o ||| 2 ^ k = q := ⟨_, rfl⟩
          rw [hq] at CW
          have HN := Lib.hid (show q = ofL ((List.range (k + 1)).filter fun i => a.testBit i && b.testBit i) by rw [HR.out, if_pos (by rw [ea, eb]; rfl), ofL_snoc, ← HO.out, hq])
          clear ea eb hq HO HR
          go_wp2_with (fail)
          refine (CA.out _).mono ?_
          rintro e w1 ⟨rfl, hb1⟩
          have hz1 := hb1.size
          go_wp2_with (fail)
          refine (CB.out _).mono ?_
          rintro e w3 ⟨rfl, hb3⟩
          have B2 := Lib.hid (B1.out.trans ((hb1.trans (hb3.mono hz1)).mono hz))
          clear hb1 hb3 B1
          go_wp2_with (fail)
          refine (CW.out _).mono ?_
          rintro e w2 ⟨rfl, hb2⟩
          have B3 := Lib.hid (B2.out.trans (hb2.mono B2.out.size))
          clear hb2 B2
          go_wp2_with (fail)
          go_roundw
          case rel => exact ⟨k + 1, q, by omega, by go_num, rfl, HN.out, B3.out⟩
          case measure => simp [intOf]; omega
    · obtain rfl : k = 9 := by omega
      have d1 : decide ((9 : Int) ≤ 8) = false := by simp
      clear hlt
      go_wp2_with (fail)
      go_ret
      exact RetV.int (by rw [HO.out]) B1.out
set_option maxHeartbeats 1000000 in
set_option maxRecDepth 4000 in
theorem c_ref05_Fields (s : Nat) (hs : s < 4294967296) (w : World) : Calls Tryd.prog 62 #[.int .u32 s] w (RetS 1 ic 3 w (idx8 s)) := by
  go_enter Tryd.func62, Tryd.ntmps62
  go_wp2_with (fail)
  go_loopw [3, 4] (fun v i wr => ∃ (k : Nat) (l : List Int), k ≤ 8 ∧ i = .int .i64 k ∧ Hid (l = (((List.range k).filter s.testBit).map Int.ofNat)) ∧ l.length ≤ k ∧ Hid (wr.ownsRow w.heap.size 3 1 v l.length (l.flatMap ic)) ∧ Hid (Below w.heap.size w wr)) (fun _ i _ => 8 - (intOf i).toNat)
  case atStart => exact ⟨0, [], by omega, rfl, rfl, by simp, World.ownsRow_lit w #[] 0 (Nat.le_refl _) (by unfold maxLen; omega) (by simp), (by repeat (first | exact Below.refl _ _ | refine Below.drew ?_ | refine Below.alloc ?_ (by first | omega | (simp; done) | (simp; omega)) _ | refine Below.setCell ?_ (by first | omega | (simp; done) | (simp; omega)) _ | refine Below.trans ?_ (Below.mono (by assumption) (by first | omega | (simp; done) | (simp; omega)))))⟩
  case round =>
    obtain ⟨k, l, hk, rfl, HL, hlk, O, B1⟩ := hrel
    obtain ⟨A9, c9, rfl, -, -⟩ := own_form O.out
    have hz := B1.out.size
    by_cases hlt : k < 8
    · have d1 : decide ((k : Int) < 8) = true := by simp; omega
      have HH := Lib.hid (fun w' => c_ref03_Has s k hs (by omega) w')
      cases hb : s.testBit k
      · replace HH := Lib.hid (by have := HH.out; rw [hb] at this; exact this)
        have HL2 := Lib.hid (show l = (((List.range (k + 1)).filter s.testBit).map Int.ofNat) by rw [List.range_succ, List.filter_append, List.map_append, HL.out]; simp [hb])
        clear hb
        go_wp2_with (fail)
        refine (HH.out _).mono ?_
        rintro e w1 ⟨rfl, hb1⟩
        have B2 := Lib.hid (B1.out.trans (hb1.mono hz))
        have O2 := Lib.hid (own_below O.out hb1)
        clear hb1 O B1
        go_wp2_with (fail)
        go_roundw
        case rel => exact ⟨k + 1, l, by omega, by go_num, HL2.out, by omega, O2.out, B2.out⟩
        case measure => simp [intOf]; omega
      · replace HH := Lib.hid (by have := HH.out; rw [hb] at this; exact this)
        have HL2 := Lib.hid (show l ++ [(k : Int)] = (((List.range (k + 1)).filter s.testBit).map Int.ofNat) by rw [List.range_succ, List.filter_append, List.map_append, HL.out]; simp [hb])
        clear hb
        go_wp2_with (fail)
        refine (HH.out _).mono ?_
        rintro e w1 ⟨rfl, hb1⟩
        have B2 := Lib.hid (B1.out.trans (hb1.mono hz))
        have O2 := Lib.hid (own_below O.out hb1)
        have hz2 := B2.out.size
        clear hb1 O B1
        go_wp2_with ((at_builtin; refine Stop.out ?_))
        refine Stop.mk (wpList_app _ rfl _ _ elemI rfl w.heap.size (.slice A9 l.length c9) l.length _ rfl (own_below O2.out ((Below.refl _ _).alloc (Nat.le_refl _) _)) _ 1 1 (ic (k : Int)) rfl (Src.new _ (ic (k : Int)) _ 1 rfl) (by simp [ic, Value.oneCell']) (by omega) (by simp; omega) ?_)
        intro v4 w4 own4 _ hb4 _
        have B4 := Lib.hid (B2.out.trans ((((Below.refl _ _).alloc hz2 _)).trans hb4))
        have O4 := Lib.hid (show w4.ownsRow w.heap.size 3 1 v4 ((l ++ [(k : Int)]).length) ((l ++ [(k : Int)]).flatMap ic) by simpa using own4)
        clear own4 hb4 O2 B2
        go_wp2_with (fail)
        go_roundw
        case rel => exact ⟨k + 1, l ++ [(k : Int)], by omega, by go_num, HL2.out, by simp; omega, O4.out, B4.out⟩
        case measure => simp [intOf]; omega
    · obtain rfl : k = 8 := by omega
      have d1 : decide ((8 : Int) < 8) = false := by simp
      clear hlt
      go_wp2_with (fail)
      go_ret
      exact RetS.of O.out (Nat.le_refl _) HL.out B1.out
set_option maxHeartbeats 1000000 in
set_option maxRecDepth 4000 in
theorem c_ref01_Ints (l : List Int) (A B : Option Addr) (ca cb : Nat) (w : World) (ha : InI w A ca l) (hb : InI w B cb l) : Calls Tryd.prog 60 #[.slice A l.length ca, .slice B l.length cb] w (RetV w (.bool true)) := by
  have hS := ha.2.2.1
  have HA := Lib.hid ha
  have HB := Lib.hid hb
  clear ha hb
  have d0 : ((l.length : Int) != (l.length : Int)) = false := by simp
  go_enter Tryd.func60, Tryd.ntmps60
  go_wp2_with (fail)
  go_loopw [5] (fun i wr => ∃ k : Nat, k ≤ l.length ∧ i = .int .i64 k ∧ Hid (Below w.heap.size w wr)) (fun i _ => l.length - (intOf i).toNat)
  case atStart => exact ⟨0, by omega, rfl, Below.refl _ _⟩
  case round =>
    obtain ⟨k, hk, rfl, B1⟩ := hrel
    have hz := B1.out.size
    by_cases hlt : k < l.length
    · have d1 : decide (k < l.length) = true := by simpa using hlt
      obtain ⟨b1, o1, hA, hb1, hr1⟩ := HA.out.at (i := k) hlt
      obtain ⟨b2, o2, hB, hb2, hr2⟩ := HB.out.at (i := k) hlt
      obtain rfl : A = some ⟨b1, o1, none⟩ := hA
      obtain rfl : B = some ⟨b2, o2, none⟩ := hB
      have e1 := (B1.out.cell (p := ⟨b1, o1 + k, none⟩) hb1).trans (show w.cell? ⟨b1, o1 + k, none⟩ = some (.int .i64 l[k]) by have := hr1 k hlt 0 _ rfl; simpa using this)
      have e2 := (B1.out.cell (p := ⟨b2, o2 + k, none⟩) hb2).trans (show w.cell? ⟨b2, o2 + k, none⟩ = some (.int .i64 l[k]) by have := hr2 k hlt 0 _ rfl; simpa using this)
      obtain ⟨x, hx⟩ : ∃ x, l[k] = x := ⟨_, rfl⟩
      rw [hx] at e1 e2
      have dx : (x != x) = false := by simp
      have u1 : b1 < wr.heap.size := by omega
      have u2 : b2 < wr.heap.size := by omega
      have hk0 : (0 : Int) ≤ (k : Int) := by omega
      have hk1 : (k : Int) < (l.length : Int) := by omega
      clear hr1 hr2 hx
      go_wp2_with (fail)
      refine wp_region_grow (by kernel_rfl) (by kernel_rfl) ?_
      repeat (quiet_step ((first | (fail))))
      refine wpQuiet_nil ?_
      intro w2 hbq
      have B2 := Lib.hid (B1.out.trans (hbq.mono hz))
      clear hbq B1
      go_wp2_with (fail)
      go_roundw
      case rel => exact ⟨k + 1, by omega, by go_num, B2.out⟩
      case measure => simp [intOf]; omega
    · obtain rfl : k = l.length := by omega
      have d1 : decide (l.length < l.length) = false := by simp
      clear hlt
      go_wp2_with (fail)
      go_ret
      exact RetV.bool rfl B1.out
end Go.Proofs.YtkofjkadmknmjaaDoor
namespace Go.Proofs.YtkofjkadmknmjaaDoor
open Go.RowKit

set_option maxHeartbeats 2000000 in
set_option maxRecDepth 4000 in
theorem c_law05_MaskTells_long (a b : Nat) (n : Nat) (A : Option Addr) (c : Nat) (w : World) (hl : 200 < n) (_hL : n ≤ c) (_hC : c ≤ 9223372036854775807) (hT : Tab w) (hP : PowTab w) (hM : MaxV w) :
    Calls Tryd.prog 11 #[.int .u32 a, .int .u32 b, .slice A n c] w (RetV w (.bool true)) := by
  have C := Lib.hid (c_law05_awake w hT hP hM)
  have d1 : decide ((200 : Int) < (n : Int)) = true := by simp; omega
  clear hT hP hM
  go_enter Tryd.func11, Tryd.ntmps11
  go_wp2_with (fail)
  refine C.out.mono ?_
  rintro e w1 ⟨rfl, hb1⟩
  go_wp2_with (fail)
  go_ret
  exact RetV.bool rfl hb1
set_option maxHeartbeats 4000000 in
set_option maxRecDepth 4000 in
theorem c_law05_MaskTells (a b : Nat) (l : List Int) (A : Option Addr) (c : Nat) (w : World) (ha : a < 4294967296) (hb : b < 4294967296) (h : InI w A c l) (hl : l.length ≤ 200) (hT : Tab w) (hP : PowTab w) (hM : MaxV w) :
    Calls Tryd.prog 11 #[.int .u32 a, .int .u32 b, .slice A l.length c] w (RetV w (.bool true)) := by
  have HT := Lib.hid (fun w' (hb : Below w.heap.size w w') => hT.below hb)
  have HP := Lib.hid (fun w' (hb : Below w.heap.size w w') => hP.below hb)
  have HM := Lib.hid (fun w' (hb : Below w.heap.size w w') => hM.below hb)
  have B := Lib.hid (Below.refl w.heap.size w)
  have HI := Lib.hid (fun w' (hb : Below w.heap.size w w') => h.below hb)
  have hL := h.1
  have hC := h.2.1
  have d1 : decide ((200 : Int) < (l.length : Int)) = false := by simp; omega
  have CC := Lib.hid (fun w' => c_mask_Check a ha w')
  have CR := Lib.hid (fun w' => c_ref05_Check a w')
  have CB := Lib.hid (fun w' => c_ref05_Check b w')
  have CX := Lib.hid (fun (p : a ≤ 511) w' => c_ref05_Both a b p hb w')
  have CY := Lib.hid (fun w' => c_mask_Both a b ha hb w')
  have L8 := idx8_len a
  obtain ⟨y, hy⟩ : ∃ y, a &&& b = y := ⟨_, rfl⟩
  rw [hy] at CX CY
  have ey : ((y : Int) == (y : Int)) = true := by simp
  clear hT hP hM h hy
  have F1 := Lib.hid (fun lab w' (hb : Below w.heap.size w w') => c_mask_MakeA lab l A c w' (HI.out w' hb))
  have F2 := Lib.hid (fun lab w' (hb : Below w.heap.size w w') => c_ref05_Make lab l A c w' (HI.out w' hb))
  obtain ⟨mk, hmk⟩ : ∃ mk : Bool → Nat, (fun lab => makeN lab l) = mk := ⟨_, rfl⟩
  replace hmk : ∀ lab, makeN lab l = mk lab := fun lab => by rw [← hmk]
  simp only [hmk] at F1 F2
  clear hmk HI
  obtain ⟨ca, hca⟩ : ∃ ca, decide (a ≤ 511) = ca := ⟨_, rfl⟩
  obtain ⟨cb, hcb⟩ : ∃ cb, decide (b ≤ 511) = cb := ⟨_, rfl⟩
  rw [hca] at CC CR
  rw [hcb] at CB
  have R1 := Lib.hid (fun w' => c_mask_Rest a ha w')
  have R2 := Lib.hid (fun w' => c_ref05_Rest a ha w')
  obtain ⟨z, hz⟩ : ∃ z, 511 &&& (4294967295 - a) = z := ⟨_, rfl⟩
  rw [hz] at R1 R2
  have ez : ((z : Int) != (z : Int)) = false := by simp
  clear hz
  have P1 := Lib.hid (fun w' => c_mask_Labels a ha w')
  have P2 := Lib.hid (fun w' => c_ref05_Labels a ha w')
  obtain ⟨p, hp⟩ : ∃ p, a.testBit 8 = p := ⟨_, rfl⟩
  rw [hp] at P1 P2
  have ep : (p != p) = false := by simp
  have ec : (ca != ca) = false := by simp
  have em : ∀ lab, ((mk lab : Int) != (mk lab : Int)) = false := by intro lab; simp
  clear hp
  go_enter Tryd.func11, Tryd.ntmps11
  go_wp2_with (fail)
  refine (CC.out _).mono ?_
  rintro e w1 ⟨rfl, hb1⟩
  replace B := Lib.hid (B.out.trans (hb1.mono B.out.size))
  clear hb1
  go_wp2_with (fail)
  refine (CR.out _).mono ?_
  rintro e w1 ⟨rfl, hb1⟩
  replace B := Lib.hid (B.out.trans (hb1.mono B.out.size))
  clear hb1
  go_wp2_with (fail)
  refine (F1.out _ _ B.out).mono ?_
  rintro e w1 ⟨rfl, hb1⟩
  replace B := Lib.hid (B.out.trans (hb1.mono B.out.size))
  clear hb1
  go_wp2_with (fail)
  refine (F2.out _ _ B.out).mono ?_
  rintro e w1 ⟨rfl, hb1⟩
  replace B := Lib.hid (B.out.trans (hb1.mono B.out.size))
  clear hb1
  go_wp2_with (fail)
  refine (c_mask_Fields a ha _ (HT.out _ B.out)).mono ?_
  rintro e w2 ⟨v2, rfl, own2, hb2⟩
  obtain ⟨A2, c2, rfl, hin2⟩ := In.of_own ic_len own2 (by omega)
  have H2 := Lib.hid hin2
  replace B := Lib.hid (B.out.trans (hb2.mono B.out.size))
  clear hb2 own2 hin2
  go_wp2_with (fail)
  refine (c_ref05_Fields a ha _).mono ?_
  rintro e w3 ⟨v3, rfl, own3, hb3⟩
  obtain ⟨A3, c3, rfl, hin3⟩ := In.of_own ic_len own3 (by omega)
  have H3 := Lib.hid hin3
  replace H2 := Lib.hid (H2.out.below hb3)
  replace B := Lib.hid (B.out.trans (hb3.mono B.out.size))
  clear hb3 own3 hin3
  go_wp2_with (fail)
  refine (c_ref01_Ints (idx8 a) A2 A3 c2 c3 _ H2.out H3.out).mono ?_
  rintro e w1 ⟨rfl, hb1⟩
  replace B := Lib.hid (B.out.trans (hb1.mono B.out.size))
  clear hb1
  go_wp2_with (fail)
  clear H2 H3
  refine (P1.out _).mono ?_
  rintro e w1 ⟨rfl, hb1⟩
  replace B := Lib.hid (B.out.trans (hb1.mono B.out.size))
  clear hb1
  go_wp2_with (fail)
  refine (P2.out _).mono ?_
  rintro e w1 ⟨rfl, hb1⟩
  replace B := Lib.hid (B.out.trans (hb1.mono B.out.size))
  clear hb1
  go_wp2_with (fail)
  refine (R1.out _).mono ?_
  rintro e w1 ⟨rfl, hb1⟩
  replace B := Lib.hid (B.out.trans (hb1.mono B.out.size))
  clear hb1
  go_wp2_with (fail)
  refine (R2.out _).mono ?_
  rintro e w1 ⟨rfl, hb1⟩
  replace B := Lib.hid (B.out.trans (hb1.mono B.out.size))
  clear hb1
  go_wp2_with (fail)
  refine (CR.out _).mono ?_
  cases ca
  · rintro e w1 ⟨rfl, hb1⟩
    replace B := Lib.hid (B.out.trans (hb1.mono B.out.size))
    clear hb1
    go_wp2_with (fail)
    refine (c_law05_awake _ (HT.out _ B.out) (HP.out _ B.out) (HM.out _ B.out)).mono ?_
    rintro e w1 ⟨rfl, hb1⟩
    replace B := Lib.hid (B.out.trans (hb1.mono B.out.size))
    clear hb1
    go_wp2_with (fail)
    go_ret
    exact RetV.bool rfl B.out
  · replace CX := Lib.hid (CX.out (by simpa using hca))
    rintro e w1 ⟨rfl, hb1⟩
    replace B := Lib.hid (B.out.trans (hb1.mono B.out.size))
    clear hb1
    go_wp2_with (fail)
    refine (CB.out _).mono ?_
    cases cb
    · rintro e w1 ⟨rfl, hb1⟩
      replace B := Lib.hid (B.out.trans (hb1.mono B.out.size))
      clear hb1
      go_wp2_with (fail)
      refine (c_law05_awake _ (HT.out _ B.out) (HP.out _ B.out) (HM.out _ B.out)).mono ?_
      rintro e w1 ⟨rfl, hb1⟩
      replace B := Lib.hid (B.out.trans (hb1.mono B.out.size))
      clear hb1
      go_wp2_with (fail)
      go_ret
      exact RetV.bool rfl B.out
    · rintro e w1 ⟨rfl, hb1⟩
      replace B := Lib.hid (B.out.trans (hb1.mono B.out.size))
      clear hb1
      go_wp2_with (fail)
      refine (CY.out _).mono ?_
      rintro e w1 ⟨rfl, hb1⟩
      replace B := Lib.hid (B.out.trans (hb1.mono B.out.size))
      clear hb1
      go_wp2_with (fail)
      refine (CX.out _).mono ?_
      rintro e w1 ⟨rfl, hb1⟩
      replace B := Lib.hid (B.out.trans (hb1.mono B.out.size))
      clear hb1
      go_wp2_with (fail)
      refine (c_law05_awake _ (HT.out _ B.out) (HP.out _ B.out) (HM.out _ B.out)).mono ?_
      rintro e w1 ⟨rfl, hb1⟩
      replace B := Lib.hid (B.out.trans (hb1.mono B.out.size))
      clear hb1
      go_wp2_with (fail)
      go_ret
      exact RetV.bool rfl B.out
end Go.Proofs.YtkofjkadmknmjaaDoor
namespace Go.Proofs.YtkofjkadmknmjaaDoor
open Go.ChangeShapes Go.WideShapes Go.ChangeAt Go.RowKit Go.Deep
open Go.ChangeMaps (open_string shut_string)

theorem list_of {α : Type} {Q : Nat → α → Prop} : ∀ n, (∀ i, i < n → ∃ x, Q i x) → ∃ l : List α, l.length = n ∧ ∀ i (h : i < l.length), Q i l[i]
  | 0, _ => ⟨[], rfl, fun i h => by simp at h⟩
  | n + 1, h => by
    obtain ⟨l, hl, hq⟩ := list_of n (fun i hi => h i (by omega))
    obtain ⟨x, hx⟩ := h n (by omega)
    refine ⟨l ++ [x], by simp [hl], fun i hi => ?_⟩
    by_cases hin : i < l.length
    · rw [List.getElem_append_left hin]; exact hq i hin
    · have : i = n := by simp at hi; omega
      subst this
      rw [List.getElem_append_right (by omega)]
      simpa using hx
theorem cell_spot {w : World} {a : Addr} {v : Value} (h : w.cell? a = some v) : a.spot = none := by
  unfold World.cell? at h
  split at h
  · split at h
    · cases h
    · rename_i hs; simpa using hs
  · cases h
theorem i64_range {n : Int} (h : (Lit.int .i64 n).wf = true) : -9223372036854775808 ≤ n ∧ n ≤ 9223372036854775807 := by
  simpa [Lit.wf, IntKind.min, IntKind.max, IntKind.signed, IntKind.bits] using h
def I64 (n : Int) : Prop := -9223372036854775808 ≤ n ∧ n ≤ 9223372036854775807
end Go.Proofs.YtkofjkadmknmjaaDoor
namespace Go.Proofs.YtkofjkadmknmjaaDoor
open Go.ChangeShapes Go.WideShapes Go.ChangeAt Go.RowKit Go.Deep
open Go.ChangeMaps (open_string shut_string)

section
variable {H : Type} {enc : TypeId × Value → H} {w : World} {base : Nat} {spare : Nat → Bool} {held : Bool}
theorem c_intL : Tryd.prog.cellsOf 3 = 1 := by kernel_rfl
theorem open_i64L {fuel : Nat} {cs : List Value} {x : DataW H × List MemPlace} (h : DataW.trod enc Tryd.prog w base spare held fuel 3 cs = some x) : ∃ n : Int, cs = [.int .i64 n] ∧ I64 n := by
  obtain ⟨a, ha, _, wa⟩ := DataW.trod_int Tryd.underlying3 h
  exact ⟨a, ha, i64_range wa⟩
/-- A slice of ints that came in. -/
theorem open_intsL {fuel : Nat} {cs : List Value} {x : DataW H × List MemPlace} (h : DataW.trod enc Tryd.prog w 0 spare held fuel 44 cs = some x) :
    ∃ (A : Option Addr) (c : Nat) (l : List Int), cs = [.slice A l.length c] ∧ l.length ≤ c ∧ c ≤ 9223372036854775807 ∧ (l = [] ∨ ∃ b off, A = some ⟨b, off, none⟩ ∧ b < w.heap.size ∧ Row 1 ic w b off l) := by
  rcases open_slice Tryd.underlying44 h with ⟨rfl, rfl⟩ | ⟨a, len, cap, m, n, D, Pl, rfl, hb, hl, hm, hmm, hx, hi⟩
  · exact ⟨none, 0, [], rfl, by simp, by omega, .inl rfl⟩
  · have hlm : len ≤ m := by rw [hmm]; split <;> omega
    have hq : ∀ i, i < len → ∃ v : Int, ∀ j u, (ic v)[j]? = some u → w.cell? (a.add (i * 1 + j)) = some u := by
      intro i hil
      obtain ⟨cs', hc, ht⟩ := hi i (by omega)
      rw [c_intL] at hc
      obtain ⟨k, hk, _⟩ := open_i64L ht
      obtain ⟨_, hcl, hat⟩ := World.cells?_some hc
      refine ⟨k, fun j u hu => ?_⟩
      have hj : j < 1 := (List.getElem?_eq_some_iff.1 hu).1
      have hj0 : j = 0 := by omega
      subst hj0
      have h1 := hat 0 (by omega)
      rw [Go.Deep.add_add] at h1
      rw [h1, hk]
      exact hu
    obtain ⟨l, hll, hq⟩ := list_of len hq
    refine ⟨some a, cap, l, by rw [hll], by omega, by unfold maxLen at hm; omega, ?_⟩
    rcases Nat.eq_zero_or_pos len with h0 | h0
    · exact .inl (List.eq_nil_of_length_eq_zero (by omega))
    · right
      have h1 := hq 0 (by omega) 0 _ rfl
      have hsp := cell_spot h1
      have hlt := World.block_lt_of_cell? w _ h1
      obtain ⟨ab, ao, asp⟩ := a
      simp [Addr.add] at hsp hlt
      subst hsp
      refine ⟨ab, ao, rfl, hlt, fun i hi j u hu => ?_⟩
      have := hq i hi j u hu
      rw [add_lit'] at this
      rw [Nat.add_assoc]; exact this
end
end Go.Proofs.YtkofjkadmknmjaaDoor
