/-
  The walks of bits.Read and mask.Read again, at texts of up to 1048576 bytes; and of the law MaskTexts at such: it answers true.
-/
import Derived.Test.YtkofjkadmknmjaaDoorMx9
import Derived.Test.YtkofjkadmknmjaaDoorRows
import Derived.WalkKit
import Derived.WalkSpells
import Derived.WalkLawsBesides
import Derived.Lib.Hide
import Derived.Deep.QuietTactic
import Derived.BigQuiet
import Derived.Maps.AppendAt
import Derived.WalkSmall
import Derived.ProofKit
import Derived.OpenShut
import Derived.JoinedCond
import Derived.Deep.Slices
import Derived.Deep.Fields
import Derived.Carry
import Derived.HandedShaped
import Derived.Shelf.Small.Wraps
import Derived.Shelf.Utf8.RuneCount
import Derived.Shelf.Strconv.Itoa0
import Derived.Shelf.Strconv.Itoa1
import Derived.Shelf.LaysM
import Derived.Shelf.Strconv.Itoa2
import Derived.Shelf.Strconv.Itoa3
import Derived.Shelf.Strings.Search1
import Derived.Shelf.Strings.Search2
import Derived.Shelf.Strings.Search3
import Derived.Shelf.Strings.Count
import Derived.Shelf.Strings.Shaped
import Derived.Shelf.Strings.Prefix
import Derived.Shelf.Strings.Split
import Derived.Shelf.Strings.SplitShaped
import Derived.Shelf.Unicode.DecodeSlow
import Derived.Test.YtkofjkadmknmjaaDoorProg
import Derived.Deep.AppendSrc
import Derived.Lib.AppendStr
import Derived.Laws.BytesArg
import Derived.Lib.AppendIntMem
import Derived.Lib.ItoaLen
import Derived.Lib.TrailingZeros
import Derived.Lib.SplitLaws
import Derived.Lib.ItoaNum
import Derived.Shelf.Strings.PiecesUse
import Derived.Shelf.Spec.TrailingZeros
import Derived.RangeFuncNested
import Derived.RangeFuncBound
import Derived.RangeFuncCalls
import Derived.RangeFuncLeaves
import Derived.Shelf.Abstract
import Derived.Shelf.RegionOpen
import Derived.OwnWalkIn
import Derived.TacticsInMore
import Derived.LoopNIn
import Derived.LoopIn
import Derived.Test.YtkofjkadmknmjaaDoorTie
import Derived.Lib.LaidTab
import Derived.LaidMore
import Derived.Lay
import Derived.Stop.LaidErr
import Derived.SevenTiedAt
import Derived.Test.YtkofjkadmknmjaaDoorCards
import Derived.StillTail
import Derived.OrdersIn
import Derived.ControlIn
import Derived.Lib.BitFns
import Derived.Deep.CutBlock
import Derived.Deep.DeepCutAuto
import Derived.Laws.IdiomStrings
import Derived.Outline
import Derived.IntWalk
import Derived.Lib.Tables
import Derived.Lib.Strings
import Derived.Deep.DeepHandedRow
namespace Go.Proofs.YtkofjkadmknmjaaDoor
open Go.RowKit

set_option maxHeartbeats 1000000 in
set_option maxRecDepth 4000 in
theorem c_bits_ReadU (t : List UInt8) (ht : t.length ≤ 1048576) (w : World) (hM : MaxV w) : Calls Tryd.prog 33 #[.string (str t)] w (RetV w (setV t)) := by
  by_cases h45 : t = [45]
  · rw [setV_some (show readB t = some 0 by unfold readB; rw [if_pos h45])]
    subst h45
    go_enter Tryd.func33, Tryd.ntmps33
    go_wp2_with (fail)
    go_ret2
    exact RetV.of rfl (by repeat (first | exact Below.refl _ _ | refine Below.drew ?_ | refine Below.alloc ?_ (by first | omega | (simp; done) | (simp; omega)) _ | refine Below.setCell ?_ (by first | omega | (simp; done) | (simp; omega)) _ | refine Below.trans ?_ (Below.mono (by assumption) (by first | omega | (simp; done) | (simp; omega)))))
  · have RB := Lib.hid (show readB t = readP (cuts 44 t) 0 (-1) by unfold readB; rw [if_neg h45])
    have e45 : (t == [45]) = false := by simpa using h45
    have CS := Lib.hid (c_Split t 44 w hM (by omega))
    have hcl := cuts_len 44 t
    have hpart := Lib.hid (cuts_part 44 t)
    obtain ⟨l, hl⟩ : ∃ l, cuts 44 t = l := ⟨_, rfl⟩
    rw [hl] at CS hpart hcl RB
    clear hl h45
    go_enter Tryd.func33, Tryd.ntmps33
    go_wp2_with (fail)
    refine CS.out.mono ?_
    rintro e w1 ⟨A1, c1, rfl, hin, hb1⟩
    have hC := hin.2.1
    have hLc := hin.1
    have HI := Lib.hid hin
    have B1 := Lib.hid hb1
    have hz1 := hb1.size
    clear hb1 hin
    go_wp2_with (fail)
    go_loopw [4, 5, 15] (fun s la i wr => ∃ (k m : Nat) (last : Int), i = .int .i64 k ∧ s = .int .u32 m ∧ la = .int .i64 last ∧ k ≤ l.length ∧ m < 4294967296 ∧ Hid (readP l 0 (-1) = readP (l.drop k) m last) ∧ Hid (Below w1.heap.size w1 wr)) (fun _ _ i _ => l.length - (intOf i).toNat)
    case atStart => exact ⟨0, 0, -1, rfl, rfl, rfl, by omega, by omega, rfl, Below.refl _ _⟩
    case round =>
      obtain ⟨k, m, last, rfl, rfl, rfl, hk, hm, HR, B2⟩ := hrel
      by_cases hlt : k < l.length
      · have d1 : decide (k < l.length) = true := by simpa using hlt
        obtain ⟨b, off, hA, hbb, hrow⟩ := HI.out.at (i := k) hlt
        obtain rfl : A1 = some ⟨b, off, none⟩ := hA
        have ek := (B2.out.cell (p := ⟨b, off + k, none⟩) hbb).trans (show w1.cell? ⟨b, off + k, none⟩ = some (.string (str l[k])) by have := hrow k hlt 0 _ rfl; simpa using this)
        have hpl := hpart.out l[k] (List.getElem_mem hlt)
        have CI := Lib.hid (fun w' => c_bits_Int l[k] 31 w' (by omega))
        have HR2 := Lib.hid (show readP l 0 (-1) = match intR l[k] 31 with | none => none | some n => if (n : Int) ≤ last then none else readP (l.drop (k + 1)) (m ||| 2 ^ n) n by rw [HR.out, List.drop_eq_getElem_cons hlt]; rfl)
        have hk0 : (0 : Int) ≤ (k : Int) := by omega
        have hk1 : (k : Int) < (l.length : Int) := by omega
        clear hrow HR
        cases hi : intR l[k] 31 with
        | none =>
          replace CI := Lib.hid (by have := CI.out; rw [(intR_none hi).1, (intR_none hi).2] at this; exact this)
          have V := Lib.hid (setV_none (show readB t = none by rw [RB.out, HR2.out, hi]))
          clear hi HR2
          go_wp2_with (fail)
          refine (CI.out _).mono ?_
          rintro e w4 ⟨rfl, hb4⟩
          have B4 := Lib.hid (B2.out.trans (hb4.mono B2.out.size))
          clear hb4 B2
          go_wp2_with (fail)
          go_ret2
          rw [V.out]
          exact RetV.of rfl (B1.out.trans (B4.out.mono hz1))
        | some n =>
          have hn32 : n < 32 := by have := (tens_intR hi).2.2; omega
          replace CI := Lib.hid (by have := CI.out; rw [(intR_some hi).1, (intR_some hi).2] at this; exact this)
          replace HR2 := Lib.hid (show readP l 0 (-1) = if (n : Int) ≤ last then none else readP (l.drop (k + 1)) (m ||| 2 ^ n) n by rw [HR2.out, hi])
          clear hi
          by_cases hle : (n : Int) ≤ last
          · have d2 : decide ((n : Int) ≤ last) = true := by simpa using hle
            have V := Lib.hid (setV_none (show readB t = none by rw [RB.out, HR2.out, if_pos hle]))
            clear HR2 hle
            go_wp2_with (fail)
            refine (CI.out _).mono ?_
            rintro e w4 ⟨rfl, hb4⟩
            have B4 := Lib.hid (B2.out.trans (hb4.mono B2.out.size))
            clear hb4 B2
            go_wp2_with (fail)
            go_ret2
            rw [V.out]
            exact RetV.of rfl (B1.out.trans (B4.out.mono hz1))
          · have d2 : decide ((n : Int) ≤ last) = false := by simpa using hle
            replace HR2 := Lib.hid (show readP l 0 (-1) = readP (l.drop (k + 1)) (m ||| 2 ^ n) n by rw [HR2.out, if_neg hle])
            have CB := Lib.hid (fun w' => c_bits_bitA (n : Int) w')
            rw [bitN_of hn32] at CB
            have h2n : (2 : Nat) ^ n < 4294967296 := by
              have : (2 : Nat) ^ n < 2 ^ 32 := Nat.pow_lt_pow_right (by omega) hn32
              omega
            have hm2 : m ||| 2 ^ n < 4294967296 := Nat.or_lt_two_pow (n := 32) hm h2n
            obtain ⟨q, hq⟩ : ∃ q, 2 ^ n = q := ⟨_, rfl⟩
            rw [hq] at CB h2n hm2
            replace HR2 := Lib.hid (by have := HR2.out; rw [hq] at this; exact this)
            have ho := or_u32 m q hm h2n
            clear hle hq
            go_wp2_with (fail)
            refine (CI.out _).mono ?_
            rintro e w4 ⟨rfl, hb4⟩
            have B4 := Lib.hid (B2.out.trans (hb4.mono B2.out.size))
            clear hb4 B2
            go_wp2_with (fail)
            refine (CB.out _).mono ?_
            rintro e w5 ⟨rfl, hb5⟩
            have B5 := Lib.hid (B4.out.trans (hb5.mono B4.out.size))
            clear hb5 B4
            go_wp2_with (fail)
            go_roundw
            case rel => exact ⟨k + 1, m ||| q, n, by go_num, rfl, rfl, by omega, hm2, HR2.out, B5.out⟩
            case measure => simp [intOf]; omega
      · obtain rfl : k = l.length := by omega
        have d1 : decide (l.length < l.length) = false := by simp
        have V := Lib.hid (setV_some (show readB t = some m by rw [RB.out, HR.out, List.drop_length]; rfl))
        clear hlt HR
        go_wp2_with (fail)
        go_ret2
        rw [V.out]
        exact RetV.of rfl (B1.out.trans (B2.out.mono hz1))
set_option maxHeartbeats 2000000 in
set_option maxRecDepth 10000 in
theorem c_mask_ReadU (t : List UInt8) (ht : t.length ≤ 1048576) (w : World) (hM : MaxV w) : Calls Tryd.prog 51 #[.string (str t)] w (RetV w (maskV t)) := by
  have HM := Lib.hid (fun w' (hb : Below w.heap.size w w') => hM.below hb)
  clear hM
  by_cases h108 : t = [108]
  · subst h108
    rw [maskV_some (s := 256) rfl]
    go_enter Tryd.func51, Tryd.ntmps51
    go_wp2_with (fail)
    go_ret2
    exact RetV.of rfl (by repeat (first | exact Below.refl _ _ | refine Below.drew ?_ | refine Below.alloc ?_ (by first | omega | (simp; done) | (simp; omega)) _ | refine Below.setCell ?_ (by first | omega | (simp; done) | (simp; omega)) _ | refine Below.trans ?_ (Below.mono (by assumption) (by first | omega | (simp; done) | (simp; omega)))))
  · have e1 : (t == [108]) = false := by simpa using h108
    cases hsuf : Lib.hasSuffix t [44, 108]
    · have CS := Lib.hid (fun w' => show Calls Tryd.prog 86 #[.string (str t), .string (str [44, 108])] w' (RetV w' (.tuple #[.string (str (Lib.trimSuffix t [44, 108])), .bool false])) by have := c_CutSuffix t [44, 108] w' (by omega); rw [hsuf] at this; exact this)
      have RM := Lib.hid (show readM t = match readB t with | none => none | some m => if 256 ≤ m then none else some m by unfold readM; rw [if_neg h108, hsuf]; rfl)
      obtain ⟨tt, htt⟩ : ∃ q, Lib.trimSuffix t [44, 108] = q := ⟨_, rfl⟩
      rw [htt] at CS
      have CR := Lib.hid (fun w' (hm : MaxV w') => c_bits_ReadU t ht w' hm)
      clear h108 hsuf htt
      cases hr : readB t with
      | none =>
        have V := Lib.hid (maskV_none (t := t) (by rw [RM.out, hr]))
        rw [setV_none hr] at CR
        clear hr RM
        rw [V.out]
        go_enter Tryd.func51, Tryd.ntmps51
        go_wp2_with (first | (go_at_call 86; refine Stop.out ?_) | go_in)
        refine Stop.mk ((CS.out _).mono ?_)
        rintro e w1 ⟨rfl, hb1⟩
        have hz1 := hb1.size
        simp only [World.size_alloc] at hz1
        have q1 := fun o => hb1.cell (p := ⟨w.heap.size, o, none⟩) (by simp; omega)
        have r1 := fun o => hb1.cell (p := ⟨w.heap.size + 1, o, none⟩) (by simp)
        have B1 : Below w.heap.size w w1 := Below.trans (b := (w.alloc (.cells #[.string (str t)] 9)).alloc (.cells #[.int .u32 0] 35)) (by repeat (first | exact Below.refl _ _ | refine Below.drew ?_ | refine Below.alloc ?_ (by first | omega | (simp; done) | (simp; omega)) _ | refine Below.setCell ?_ (by first | omega | (simp; done) | (simp; omega)) _ | refine Below.trans ?_ (Below.mono (by assumption) (by first | omega | (simp; done) | (simp; omega))))) (hb1.mono (by simp; omega))
        go_wp2_with (fail)
        go_end0
        simp only []
        go_at_K
        go_wp2_with (fail)
        refine (CR.out _ (HM.out _ B1)).mono ?_
        rintro e w2 ⟨rfl, hb2⟩
        have q2 := fun o => hb2.cell (p := ⟨w.heap.size, o, none⟩) (by show w.heap.size < _; omega)
        have r2 := fun o => hb2.cell (p := ⟨w.heap.size + 1, o, none⟩) (by show w.heap.size + 1 < _; omega)
        have B2 : Below w.heap.size w w2 := B1.trans (hb2.mono B1.size)
        go_wp2_with (fail)
        go_ret2
        exact RetV.of rfl B2
      | some m =>
        have hm := (show_readB hr).2
        rw [setV_some hr] at CR
        by_cases h256 : 256 ≤ m
        · have V := Lib.hid (maskV_none (t := t) (by rw [RM.out, hr]; exact if_pos h256))
          have d1 : decide ((256 : Int) ≤ (m : Int)) = true := by simp; omega
          clear hr RM h256
          rw [V.out]
          go_enter Tryd.func51, Tryd.ntmps51
          go_wp2_with (first | (go_at_call 86; refine Stop.out ?_) | go_in)
          refine Stop.mk ((CS.out _).mono ?_)
          rintro e w1 ⟨rfl, hb1⟩
          have hz1 := hb1.size
          simp only [World.size_alloc] at hz1
          have q1 := fun o => hb1.cell (p := ⟨w.heap.size, o, none⟩) (by simp; omega)
          have r1 := fun o => hb1.cell (p := ⟨w.heap.size + 1, o, none⟩) (by simp)
          have B1 : Below w.heap.size w w1 := Below.trans (b := (w.alloc (.cells #[.string (str t)] 9)).alloc (.cells #[.int .u32 0] 35)) (by repeat (first | exact Below.refl _ _ | refine Below.drew ?_ | refine Below.alloc ?_ (by first | omega | (simp; done) | (simp; omega)) _ | refine Below.setCell ?_ (by first | omega | (simp; done) | (simp; omega)) _ | refine Below.trans ?_ (Below.mono (by assumption) (by first | omega | (simp; done) | (simp; omega))))) (hb1.mono (by simp; omega))
          go_wp2_with (fail)
          go_end0
          simp only []
          go_at_K
          go_wp2_with (fail)
          refine (CR.out _ (HM.out _ B1)).mono ?_
          rintro e w2 ⟨rfl, hb2⟩
          have q2 := fun o => hb2.cell (p := ⟨w.heap.size, o, none⟩) (by show w.heap.size < _; omega)
          have r2 := fun o => hb2.cell (p := ⟨w.heap.size + 1, o, none⟩) (by show w.heap.size + 1 < _; omega)
          have B2 : Below w.heap.size w w2 := B1.trans (hb2.mono B1.size)
          go_wp2_with (fail)
          go_ret2
          exact RetV.of rfl B2
        · have V := Lib.hid (maskV_some (t := t) (s := m) (by rw [RM.out, hr]; exact if_neg h256))
          have d1 : decide ((256 : Int) ≤ (m : Int)) = false := by simp; omega
          have ho : bits .or .u32 (m : Int) 0 = (m : Int) := by have := or_u32 m 0 hm (by omega); rw [Nat.or_zero] at this; exact this
          clear hr RM h256
          rw [V.out]
          go_enter Tryd.func51, Tryd.ntmps51
          go_wp2_with (first | (go_at_call 86; refine Stop.out ?_) | go_in)
          refine Stop.mk ((CS.out _).mono ?_)
          rintro e w1 ⟨rfl, hb1⟩
          have hz1 := hb1.size
          simp only [World.size_alloc] at hz1
          have q1 := fun o => hb1.cell (p := ⟨w.heap.size, o, none⟩) (by simp; omega)
          have r1 := fun o => hb1.cell (p := ⟨w.heap.size + 1, o, none⟩) (by simp)
          have B1 : Below w.heap.size w w1 := Below.trans (b := (w.alloc (.cells #[.string (str t)] 9)).alloc (.cells #[.int .u32 0] 35)) (by repeat (first | exact Below.refl _ _ | refine Below.drew ?_ | refine Below.alloc ?_ (by first | omega | (simp; done) | (simp; omega)) _ | refine Below.setCell ?_ (by first | omega | (simp; done) | (simp; omega)) _ | refine Below.trans ?_ (Below.mono (by assumption) (by first | omega | (simp; done) | (simp; omega))))) (hb1.mono (by simp; omega))
          go_wp2_with (fail)
          go_end0
          simp only []
          go_at_K
          go_wp2_with (fail)
          refine (CR.out _ (HM.out _ B1)).mono ?_
          rintro e w2 ⟨rfl, hb2⟩
          have q2 := fun o => hb2.cell (p := ⟨w.heap.size, o, none⟩) (by show w.heap.size < _; omega)
          have r2 := fun o => hb2.cell (p := ⟨w.heap.size + 1, o, none⟩) (by show w.heap.size + 1 < _; omega)
          have B2 : Below w.heap.size w w2 := B1.trans (hb2.mono B1.size)
          go_wp2_with (fail)
          go_ret2
          exact RetV.of rfl B2
    · have CS := Lib.hid (fun w' => show Calls Tryd.prog 86 #[.string (str t), .string (str [44, 108])] w' (RetV w' (.tuple #[.string (str (Lib.trimSuffix t [44, 108])), .bool true])) by have := c_CutSuffix t [44, 108] w' (by omega); rw [hsuf] at this; exact this)
      have htr : Lib.trimSuffix t [44, 108] = t.take (t.length - 2) := by unfold Lib.trimSuffix; rw [hsuf]; rfl
      have RM := Lib.hid (show readM t = match readB (t.take (t.length - 2)) with | none => none | some m => if 256 ≤ m ∨ m = 0 then none else some (m + 256) by unfold readM; rw [if_neg h108, hsuf]; rfl)
      have hl2 : (t.take (t.length - 2)).length ≤ 1048576 := by rw [List.length_take]; omega
      obtain ⟨tt, htt⟩ : ∃ q, t.take (t.length - 2) = q := ⟨_, rfl⟩
      rw [htr, htt] at CS
      rw [htt] at hl2
      replace RM := Lib.hid (by have := RM.out; rw [htt] at this; exact this)
      have CR := Lib.hid (fun w' (hm : MaxV w') => c_bits_ReadU tt hl2 w' hm)
      have l0 : decide ((0 : Int) < 256) = true := by decide
      clear h108 hsuf htr htt hl2
      cases hr : readB tt with
      | none =>
        have V := Lib.hid (maskV_none (t := t) (by rw [RM.out, hr]))
        rw [setV_none hr] at CR
        clear hr RM
        rw [V.out]
        go_enter Tryd.func51, Tryd.ntmps51
        go_wp2_with (first | (go_at_call 86; refine Stop.out ?_) | go_in)
        refine Stop.mk ((CS.out _).mono ?_)
        rintro e w1 ⟨rfl, hb1⟩
        have hz1 := hb1.size
        simp only [World.size_alloc] at hz1
        have q1 := fun o => hb1.cell (p := ⟨w.heap.size, o, none⟩) (by simp; omega)
        have r1 := fun o => hb1.cell (p := ⟨w.heap.size + 1, o, none⟩) (by simp)
        have f1 := fun o => hb1.frozen (p := ⟨w.heap.size, o, none⟩) (by simp; omega)
        have g1 := fun o => hb1.frozen (p := ⟨w.heap.size + 1, o, none⟩) (by simp)
        have B1 : Below w.heap.size w w1 := Below.trans (b := (w.alloc (.cells #[.string (str t)] 9)).alloc (.cells #[.int .u32 0] 35)) (by repeat (first | exact Below.refl _ _ | refine Below.drew ?_ | refine Below.alloc ?_ (by first | omega | (simp; done) | (simp; omega)) _ | refine Below.setCell ?_ (by first | omega | (simp; done) | (simp; omega)) _ | refine Below.trans ?_ (Below.mono (by assumption) (by first | omega | (simp; done) | (simp; omega))))) (hb1.mono (by simp; omega))
        go_wp2_with (fail)
        go_end0
        simp only []
        go_at_K
        go_wp2_with (fail)
        have B1' : Below w.heap.size w ((w1.setCell ⟨w.heap.size, 0, none⟩ (.string (str tt))).setCell ⟨w.heap.size + 1, 0, none⟩ (.int .u32 256)) := (B1.setCell (Nat.le_refl _) _).setCell (by show w.heap.size ≤ w.heap.size + 1; omega) _
        refine (CR.out _ (HM.out _ B1')).mono ?_
        rintro e w2 ⟨rfl, hb2⟩
        have hz2 := hb2.size
        simp only [World.size_setCell] at hz2
        have q2 := fun o => hb2.cell (p := ⟨w.heap.size, o, none⟩) (by show w.heap.size < _; simp; omega)
        have r2 := fun o => hb2.cell (p := ⟨w.heap.size + 1, o, none⟩) (by show w.heap.size + 1 < _; simp; omega)
        have B2 : Below w.heap.size w w2 := B1'.trans (hb2.mono B1'.size)
        go_wp2_with (fail)
        go_ret2
        exact RetV.of rfl B2
      | some m =>
        have hm := (show_readB hr).2
        rw [setV_some hr] at CR
        by_cases h256 : 256 ≤ m
        · have V := Lib.hid (maskV_none (t := t) (by rw [RM.out, hr]; exact if_pos (.inl h256)))
          have d1 : decide ((256 : Int) ≤ (m : Int)) = true := by simp; omega
          clear hr RM h256
          rw [V.out]
          go_enter Tryd.func51, Tryd.ntmps51
          go_wp2_with (first | (go_at_call 86; refine Stop.out ?_) | go_in)
          refine Stop.mk ((CS.out _).mono ?_)
          rintro e w1 ⟨rfl, hb1⟩
          have hz1 := hb1.size
          simp only [World.size_alloc] at hz1
          have q1 := fun o => hb1.cell (p := ⟨w.heap.size, o, none⟩) (by simp; omega)
          have r1 := fun o => hb1.cell (p := ⟨w.heap.size + 1, o, none⟩) (by simp)
          have f1 := fun o => hb1.frozen (p := ⟨w.heap.size, o, none⟩) (by simp; omega)
          have g1 := fun o => hb1.frozen (p := ⟨w.heap.size + 1, o, none⟩) (by simp)
          have B1 : Below w.heap.size w w1 := Below.trans (b := (w.alloc (.cells #[.string (str t)] 9)).alloc (.cells #[.int .u32 0] 35)) (by repeat (first | exact Below.refl _ _ | refine Below.drew ?_ | refine Below.alloc ?_ (by first | omega | (simp; done) | (simp; omega)) _ | refine Below.setCell ?_ (by first | omega | (simp; done) | (simp; omega)) _ | refine Below.trans ?_ (Below.mono (by assumption) (by first | omega | (simp; done) | (simp; omega))))) (hb1.mono (by simp; omega))
          go_wp2_with (fail)
          go_end0
          simp only []
          go_at_K
          go_wp2_with (fail)
          have B1' : Below w.heap.size w ((w1.setCell ⟨w.heap.size, 0, none⟩ (.string (str tt))).setCell ⟨w.heap.size + 1, 0, none⟩ (.int .u32 256)) := (B1.setCell (Nat.le_refl _) _).setCell (by show w.heap.size ≤ w.heap.size + 1; omega) _
          refine (CR.out _ (HM.out _ B1')).mono ?_
          rintro e w2 ⟨rfl, hb2⟩
          have hz2 := hb2.size
          simp only [World.size_setCell] at hz2
          have q2 := fun o => hb2.cell (p := ⟨w.heap.size, o, none⟩) (by show w.heap.size < _; simp; omega)
          have r2 := fun o => hb2.cell (p := ⟨w.heap.size + 1, o, none⟩) (by show w.heap.size + 1 < _; simp; omega)
          have B2 : Below w.heap.size w w2 := B1'.trans (hb2.mono B1'.size)
          go_wp2_with (fail)
          go_ret2
          exact RetV.of rfl B2
        · have d1 : decide ((256 : Int) ≤ (m : Int)) = false := by simp; omega
          by_cases h0 : m = 0
          · have V := Lib.hid (maskV_none (t := t) (by rw [RM.out, hr]; exact if_pos (.inr h0)))
            have d2 : ((m : Int) == 0) = true := by rw [beq_iff_eq]; omega
            clear hr RM h256 h0
            rw [V.out]
            go_enter Tryd.func51, Tryd.ntmps51
            go_wp2_with (first | (go_at_call 86; refine Stop.out ?_) | go_in)
            refine Stop.mk ((CS.out _).mono ?_)
            rintro e w1 ⟨rfl, hb1⟩
            have hz1 := hb1.size
            simp only [World.size_alloc] at hz1
            have q1 := fun o => hb1.cell (p := ⟨w.heap.size, o, none⟩) (by simp; omega)
            have r1 := fun o => hb1.cell (p := ⟨w.heap.size + 1, o, none⟩) (by simp)
            have f1 := fun o => hb1.frozen (p := ⟨w.heap.size, o, none⟩) (by simp; omega)
            have g1 := fun o => hb1.frozen (p := ⟨w.heap.size + 1, o, none⟩) (by simp)
            have B1 : Below w.heap.size w w1 := Below.trans (b := (w.alloc (.cells #[.string (str t)] 9)).alloc (.cells #[.int .u32 0] 35)) (by repeat (first | exact Below.refl _ _ | refine Below.drew ?_ | refine Below.alloc ?_ (by first | omega | (simp; done) | (simp; omega)) _ | refine Below.setCell ?_ (by first | omega | (simp; done) | (simp; omega)) _ | refine Below.trans ?_ (Below.mono (by assumption) (by first | omega | (simp; done) | (simp; omega))))) (hb1.mono (by simp; omega))
            go_wp2_with (fail)
            go_end0
            simp only []
            go_at_K
            go_wp2_with (fail)
            have B1' : Below w.heap.size w ((w1.setCell ⟨w.heap.size, 0, none⟩ (.string (str tt))).setCell ⟨w.heap.size + 1, 0, none⟩ (.int .u32 256)) := (B1.setCell (Nat.le_refl _) _).setCell (by show w.heap.size ≤ w.heap.size + 1; omega) _
            refine (CR.out _ (HM.out _ B1')).mono ?_
            rintro e w2 ⟨rfl, hb2⟩
            have hz2 := hb2.size
            simp only [World.size_setCell] at hz2
            have q2 := fun o => hb2.cell (p := ⟨w.heap.size, o, none⟩) (by show w.heap.size < _; simp; omega)
            have r2 := fun o => hb2.cell (p := ⟨w.heap.size + 1, o, none⟩) (by show w.heap.size + 1 < _; simp; omega)
            have B2 : Below w.heap.size w w2 := B1'.trans (hb2.mono B1'.size)
            go_wp2_with (fail)
            go_ret2
            exact RetV.of rfl B2
          · have V := Lib.hid (maskV_some (t := t) (s := m + 256) (by rw [RM.out, hr]; exact if_neg (by omega)))
            have d2 : ((m : Int) == 0) = false := by rw [beq_eq_false_iff_ne]; omega
            have hb8 : m.testBit 8 = false := by rw [bit8_off (by omega)]; omega
            have ho : bits .or .u32 (m : Int) 256 = ((m + 256 : Nat) : Int) := by
              have := or_u32 m 256 hm (by omega)
              rw [show m ||| 256 = m + 256 from or_pow 8 m hb8] at this
              exact this
            clear hr RM h256 h0 hb8
            rw [V.out]
            go_enter Tryd.func51, Tryd.ntmps51
            go_wp2_with (first | (go_at_call 86; refine Stop.out ?_) | go_in)
            refine Stop.mk ((CS.out _).mono ?_)
            rintro e w1 ⟨rfl, hb1⟩
            have hz1 := hb1.size
            simp only [World.size_alloc] at hz1
            have q1 := fun o => hb1.cell (p := ⟨w.heap.size, o, none⟩) (by simp; omega)
            have r1 := fun o => hb1.cell (p := ⟨w.heap.size + 1, o, none⟩) (by simp)
            have f1 := fun o => hb1.frozen (p := ⟨w.heap.size, o, none⟩) (by simp; omega)
            have g1 := fun o => hb1.frozen (p := ⟨w.heap.size + 1, o, none⟩) (by simp)
            have B1 : Below w.heap.size w w1 := Below.trans (b := (w.alloc (.cells #[.string (str t)] 9)).alloc (.cells #[.int .u32 0] 35)) (by repeat (first | exact Below.refl _ _ | refine Below.drew ?_ | refine Below.alloc ?_ (by first | omega | (simp; done) | (simp; omega)) _ | refine Below.setCell ?_ (by first | omega | (simp; done) | (simp; omega)) _ | refine Below.trans ?_ (Below.mono (by assumption) (by first | omega | (simp; done) | (simp; omega))))) (hb1.mono (by simp; omega))
            go_wp2_with (fail)
            go_end0
            simp only []
            go_at_K
            go_wp2_with (fail)
            have B1' : Below w.heap.size w ((w1.setCell ⟨w.heap.size, 0, none⟩ (.string (str tt))).setCell ⟨w.heap.size + 1, 0, none⟩ (.int .u32 256)) := (B1.setCell (Nat.le_refl _) _).setCell (by show w.heap.size ≤ w.heap.size + 1; omega) _
            refine (CR.out _ (HM.out _ B1')).mono ?_
            rintro e w2 ⟨rfl, hb2⟩
            have hz2 := hb2.size
            simp only [World.size_setCell] at hz2
            have q2 := fun o => hb2.cell (p := ⟨w.heap.size, o, none⟩) (by show w.heap.size < _; simp; omega)
            have r2 := fun o => hb2.cell (p := ⟨w.heap.size + 1, o, none⟩) (by show w.heap.size + 1 < _; simp; omega)
            have B2 : Below w.heap.size w w2 := B1'.trans (hb2.mono B1'.size)
            go_wp2_with (fail)
            go_ret2
            exact RetV.of rfl B2
set_option maxHeartbeats 1000000 in
set_option maxRecDepth 4000 in
theorem c_law05_MaskTexts (m : Nat) (t : List UInt8) (hm : m < 4294967296) (ht : t.length ≤ 1048576) (w : World) (hT : Tab w) (hP : PowTab w) (hM : MaxV w) : Calls Tryd.prog 10 #[.int .u32 m, .string (str t)] w (RetV w (.bool true)) := by
  have HT := Lib.hid (fun w' (hb : Below w.heap.size w w') => hT.below hb)
  have HP := Lib.hid (fun w' (hb : Below w.heap.size w w') => hP.below hb)
  have HM := Lib.hid (fun w' (hb : Below w.heap.size w w') => hM.below hb)
  have B := Lib.hid (Below.refl w.heap.size w)
  clear hT hP hM
  have C1 := Lib.hid (fun w' (h : MaxV w') => c_mask_ReadU t ht w' h)
  have C2 := Lib.hid (fun w' => c_ref05_Read t (by omega) w')
  have C3 := Lib.hid (fun w' (h1 : Tab w') (h2 : PowTab w') => c_mask_Show m hm w' h1 h2)
  have C4 := Lib.hid (fun w' => c_ref05_Show m hm w')
  obtain ⟨s, hs⟩ : ∃ s, showM m = s := ⟨_, rfl⟩
  rw [hs] at C3 C4
  obtain ⟨x, ok, hx⟩ : ∃ (x : Nat) (ok : Bool), maskV t = .tuple #[.int .u32 x, .bool ok] := by
    cases h : readM t with
    | none => exact ⟨0, false, maskV_none h⟩
    | some q => exact ⟨q, true, maskV_some h⟩
  rw [hx] at C1 C2
  clear hx hs
  have e1 : ((x : Int) == (x : Int)) = true := by simp
  have e2 : (ok == ok) = true := by simp
  have e3 : (s == s) = true := by simp
  go_enter Tryd.func10, Tryd.ntmps10
  go_wp2_with (fail)
  refine (C1.out _ (HM.out _ B.out)).mono ?_
  rintro e w1 ⟨rfl, hb1⟩
  replace B := Lib.hid (B.out.trans (hb1.mono B.out.size))
  clear hb1
  go_wp2_with (fail)
  refine (C2.out _).mono ?_
  rintro e w1 ⟨rfl, hb1⟩
  replace B := Lib.hid (B.out.trans (hb1.mono B.out.size))
  clear hb1
  go_wp2_with (fail)
  refine (C3.out _ (HT.out _ B.out) (HP.out _ B.out)).mono ?_
  rintro e w1 ⟨rfl, hb1⟩
  replace B := Lib.hid (B.out.trans (hb1.mono B.out.size))
  clear hb1
  go_wp2_with (fail)
  refine (C4.out _).mono ?_
  rintro e w1 ⟨rfl, hb1⟩
  replace B := Lib.hid (B.out.trans (hb1.mono B.out.size))
  clear hb1
  go_wp2_with (fail)
  refine (c_law05_awake _ (HT.out _ B.out) (HP.out _ B.out) (HM.out _ B.out)).mono ?_
  rintro e w1 ⟨rfl, hb1⟩
  replace B := Lib.hid (B.out.trans (hb1.mono B.out.size))
  clear hb1
  go_wp2_with (fail)
  go_ret
  exact RetV.bool rfl B.out
end Go.Proofs.YtkofjkadmknmjaaDoor
