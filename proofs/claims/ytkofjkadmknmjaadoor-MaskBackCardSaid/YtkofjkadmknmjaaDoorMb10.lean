/-
  Lemmas (walks and plain laws), in one text.
-/
import Derived.Test.YtkofjkadmknmjaaDoorMb9
import Derived.Test.YtkofjkadmknmjaaDoorRows
import Derived.WalkKit
import Derived.WalkSpells
import Derived.WalkLawsBesides
import Derived.Lib.Hide
import Derived.Deep.QuietTactic
import Derived.BigQuiet
import Derived.Maps.AppendAt
import Derived.WalkSmall
import Derived.ProofKit
import Derived.OpenShut
import Derived.JoinedCond
import Derived.Deep.Slices
import Derived.Deep.Fields
import Derived.Carry
import Derived.HandedShaped
import Derived.Shelf.Small.Wraps
import Derived.Shelf.Utf8.RuneCount
import Derived.Shelf.Strconv.Itoa0
import Derived.Shelf.Strconv.Itoa1
import Derived.Shelf.LaysM
import Derived.Shelf.Strconv.Itoa2
import Derived.Shelf.Strconv.Itoa3
import Derived.Shelf.Strings.Search1
import Derived.Shelf.Strings.Search2
import Derived.Shelf.Strings.Search3
import Derived.Shelf.Strings.Count
import Derived.Shelf.Strings.Shaped
import Derived.Shelf.Strings.Prefix
import Derived.Shelf.Strings.Split
import Derived.Shelf.Strings.SplitShaped
import Derived.Shelf.Unicode.DecodeSlow
import Derived.Test.YtkofjkadmknmjaaDoorProg
import Derived.Deep.AppendSrc
import Derived.Lib.AppendStr
import Derived.Laws.BytesArg
import Derived.Lib.AppendIntMem
import Derived.Lib.ItoaLen
import Derived.Lib.TrailingZeros
import Derived.Lib.SplitLaws
import Derived.Lib.ItoaNum
import Derived.Shelf.Strings.PiecesUse
import Derived.Shelf.Spec.TrailingZeros
import Derived.RangeFuncNested
import Derived.RangeFuncBound
import Derived.RangeFuncCalls
import Derived.RangeFuncLeaves
import Derived.Shelf.Abstract
import Derived.Shelf.RegionOpen
import Derived.OwnWalkIn
import Derived.TacticsInMore
import Derived.LoopNIn
import Derived.LoopIn
import Derived.Test.YtkofjkadmknmjaaDoorTie
import Derived.Lib.LaidTab
import Derived.LaidMore
import Derived.Lay
import Derived.Stop.LaidErr
import Derived.SevenTiedAt
import Derived.Test.YtkofjkadmknmjaaDoorCards
import Derived.StillTail
import Derived.OrdersIn
import Derived.ControlIn
import Derived.Lib.BitFns
import Derived.Deep.CutBlock
import Derived.Deep.DeepCutAuto
import Derived.Laws.IdiomStrings
import Derived.Outline
import Derived.IntWalk
import Derived.Lib.Tables
import Derived.Lib.Strings
namespace Go.Proofs.YtkofjkadmknmjaaDoor
open Go.RowKit

set_option maxHeartbeats 2000000 in
set_option maxRecDepth 10000 in
theorem c_mask_Read (t : List UInt8) (ht : t.length ≤ 1000000) (w : World) (hM : MaxV w) : Calls Tryd.prog 51 #[.string (str t)] w (RetV w (maskV t)) := by
  have HM := Lib.hid (fun w' (hb : Below w.heap.size w w') => hM.below hb)
  clear hM
  by_cases h108 : t = [108]
  · subst h108
    rw [maskV_some (s := 256) rfl]
    go_enter Tryd.func51, Tryd.ntmps51
    go_wp2_with (fail)
    go_ret2
    exact RetV.of rfl (by repeat (first | exact Below.refl _ _ | refine Below.drew ?_ | refine Below.alloc ?_ (by first | omega | (simp; done) | (simp; omega)) _ | refine Below.setCell ?_ (by first | omega | (simp; done) | (simp; omega)) _ | refine Below.trans ?_ (Below.mono (by assumption) (by first | omega | (simp; done) | (simp; omega)))))
  · have e1 : (t == [108]) = false := by simpa using h108
    cases hsuf : Lib.hasSuffix t [44, 108]
    · have CS := Lib.hid (fun w' => show Calls Tryd.prog 86 #[.string (str t), .string (str [44, 108])] w' (RetV w' (.tuple #[.string (str (Lib.trimSuffix t [44, 108])), .bool false])) by have := c_CutSuffix t [44, 108] w' (by omega); rw [hsuf] at this; exact this)
      have RM := Lib.hid (show readM t = match readB t with | none => none | some m => if 256 ≤ m then none else some m by unfold readM; rw [if_neg h108, hsuf]; rfl)
      obtain ⟨tt, htt⟩ : ∃ q, Lib.trimSuffix t [44, 108] = q := ⟨_, rfl⟩
      rw [htt] at CS
      have CR := Lib.hid (fun w' (hm : MaxV w') => c_bits_Read t ht w' hm)
      clear h108 hsuf htt
      cases hr : readB t with
      | none =>
        have V := Lib.hid (maskV_none (t := t) (by rw [RM.out, hr]))
        rw [setV_none hr] at CR
        clear hr RM
        rw [V.out]
        go_enter Tryd.func51, Tryd.ntmps51
        go_wp2_with (first | (go_at_call 86; refine Stop.out ?_) | go_in)
        refine Stop.mk ((CS.out _).mono ?_)
        rintro e w1 ⟨rfl, hb1⟩
        have hz1 := hb1.size
        simp only [World.size_alloc] at hz1
        have q1 := fun o => hb1.cell (p := ⟨w.heap.size, o, none⟩) (by simp; omega)
        have r1 := fun o => hb1.cell (p := ⟨w.heap.size + 1, o, none⟩) (by simp)
        have B1 : Below w.heap.size w w1 := Below.trans (b := (w.alloc (.cells #[.string (str t)] 9)).alloc (.cells #[.int .u32 0] 35)) (by repeat (first | exact Below.refl _ _ | refine Below.drew ?_ | refine Below.alloc ?_ (by first | omega | (simp; done) | (simp; omega)) _ | refine Below.setCell ?_ (by first | omega | (simp; done) | (simp; omega)) _ | refine Below.trans ?_ (Below.mono (by assumption) (by first | omega | (simp; done) | (simp; omega))))) (hb1.mono (by simp; omega))
        go_wp2_with (fail)
        go_end0
        simp only []
        go_at_K
        go_wp2_with (fail)
        refine (CR.out _ (HM.out _ B1)).mono ?_
        rintro e w2 ⟨rfl, hb2⟩
        have q2 := fun o => hb2.cell (p := ⟨w.heap.size, o, none⟩) (by show w.heap.size < _; omega)
        have r2 := fun o => hb2.cell (p := ⟨w.heap.size + 1, o, none⟩) (by show w.heap.size + 1 < _; omega)
        have B2 : Below w.heap.size w w2 := B1.trans (hb2.mono B1.size)
        go_wp2_with (fail)
        go_ret2
        exact RetV.of rfl B2
      | some m =>
        have hm := (show_readB hr).2
        rw [setV_some hr] at CR
        by_cases h256 : 256 ≤ m
        · have V := Lib.hid (maskV_none (t := t) (by rw [RM.out, hr]; exact if_pos h256))
          have d1 : decide ((256 : Int) ≤ (m : Int)) = true := by simp; omega
          clear hr RM h256
          rw [V.out]
          go_enter Tryd.func51, Tryd.ntmps51
          go_wp2_with (first | (go_at_call 86; refine Stop.out ?_) | go_in)
          refine Stop.mk ((CS.out _).mono ?_)
          rintro e w1 ⟨rfl, hb1⟩
          have hz1 := hb1.size
          simp only [World.size_alloc] at hz1
          have q1 := fun o => hb1.cell (p := ⟨w.heap.size, o, none⟩) (by simp; omega)
          have r1 := fun o => hb1.cell (p := ⟨w.heap.size + 1, o, none⟩) (by simp)
          have B1 : Below w.heap.size w w1 := Below.trans (b := (w.alloc (.cells #[.string (str t)] 9)).alloc (.cells #[.int .u32 0] 35)) (by repeat (first | exact Below.refl _ _ | refine Below.drew ?_ | refine Below.alloc ?_ (by first | omega | (simp; done) | (simp; omega)) _ | refine Below.setCell ?_ (by first | omega | (simp; done) | (simp; omega)) _ | refine Below.trans ?_ (Below.mono (by assumption) (by first | omega | (simp; done) | (simp; omega))))) (hb1.mono (by simp; omega))
          go_wp2_with (fail)
          go_end0
          simp only []
          go_at_K
          go_wp2_with (fail)
          refine (CR.out _ (HM.out _ B1)).mono ?_
          rintro e w2 ⟨rfl, hb2⟩
          have q2 := fun o => hb2.cell (p := ⟨w.heap.size, o, none⟩) (by show w.heap.size < _; omega)
          have r2 := fun o => hb2.cell (p := ⟨w.heap.size + 1, o, none⟩) (by show w.heap.size + 1 < _; omega)
          have B2 : Below w.heap.size w w2 := B1.trans (hb2.mono B1.size)
          go_wp2_with (fail)
          go_ret2
          exact RetV.of rfl B2
        · have V := Lib.hid (maskV_some (t := t) (s := m) (by rw [RM.out, hr]; exact if_neg h256))
          have d1 : decide ((256 : Int) ≤ (m : Int)) = false := by simp; omega
          have ho : bits .or .u32 (m : Int) 0 = (m : Int) := by have := or_u32 m 0 hm (by omega); rw [Nat.or_zero] at this; exact this
          clear hr RM h256
          rw [V.out]
          go_enter Tryd.func51, Tryd.ntmps51
          go_wp2_with (first | (go_at_call 86; refine Stop.out ?_) | go_in)
          refine Stop.mk ((CS.out _).mono ?_)
          rintro e w1 ⟨rfl, hb1⟩
          have hz1 := hb1.size
          simp only [World.size_alloc] at hz1
          have q1 := fun o => hb1.cell (p := ⟨w.heap.size, o, none⟩) (by simp; omega)
          have r1 := fun o => hb1.cell (p := ⟨w.heap.size + 1, o, none⟩) (by simp)
          have B1 : Below w.heap.size w w1 := Below.trans (b := (w.alloc (.cells #[.string (str t)] 9)).alloc (.cells #[.int .u32 0] 35)) (by repeat (first | exact Below.refl _ _ | refine Below.drew ?_ | refine Below.alloc ?_ (by first | omega | (simp; done) | (simp; omega)) _ | refine Below.setCell ?_ (by first | omega | (simp; done) | (simp; omega)) _ | refine Below.trans ?_ (Below.mono (by assumption) (by first | omega | (simp; done) | (simp; omega))))) (hb1.mono (by simp; omega))
          go_wp2_with (fail)
          go_end0
          simp only []
          go_at_K
          go_wp2_with (fail)
          refine (CR.out _ (HM.out _ B1)).mono ?_
          rintro e w2 ⟨rfl, hb2⟩
          have q2 := fun o => hb2.cell (p := ⟨w.heap.size, o, none⟩) (by show w.heap.size < _; omega)
          have r2 := fun o => hb2.cell (p := ⟨w.heap.size + 1, o, none⟩) (by show w.heap.size + 1 < _; omega)
          have B2 : Below w.heap.size w w2 := B1.trans (hb2.mono B1.size)
          go_wp2_with (fail)
          go_ret2
          exact RetV.of rfl B2
    · have CS := Lib.hid (fun w' => show Calls Tryd.prog 86 #[.string (str t), .string (str [44, 108])] w' (RetV w' (.tuple #[.string (str (Lib.trimSuffix t [44, 108])), .bool true])) by have := c_CutSuffix t [44, 108] w' (by omega); rw [hsuf] at this; exact this)
      have htr : Lib.trimSuffix t [44, 108] = t.take (t.length - 2) := by unfold Lib.trimSuffix; rw [hsuf]; rfl
      have RM := Lib.hid (show readM t = match readB (t.take (t.length - 2)) with | none => none | some m => if 256 ≤ m ∨ m = 0 then none else some (m + 256) by unfold readM; rw [if_neg h108, hsuf]; rfl)
      have hl2 : (t.take (t.length - 2)).length ≤ 1000000 := by rw [List.length_take]; omega
      obtain ⟨tt, htt⟩ : ∃ q, t.take (t.length - 2) = q := ⟨_, rfl⟩
      rw [htr, htt] at CS
      rw [htt] at hl2
      replace RM := Lib.hid (by have := RM.out; rw [htt] at this; exact this)
      have CR := Lib.hid (fun w' (hm : MaxV w') => c_bits_Read tt hl2 w' hm)
      have l0 : decide ((0 : Int) < 256) = true := by decide
      clear h108 hsuf htr htt hl2
      cases hr : readB tt with
      | none =>
        have V := Lib.hid (maskV_none (t := t) (by rw [RM.out, hr]))
        rw [setV_none hr] at CR
        clear hr RM
        rw [V.out]
        go_enter Tryd.func51, Tryd.ntmps51
        go_wp2_with (first | (go_at_call 86; refine Stop.out ?_) | go_in)
        refine Stop.mk ((CS.out _).mono ?_)
        rintro e w1 ⟨rfl, hb1⟩
        have hz1 := hb1.size
        simp only [World.size_alloc] at hz1
        have q1 := fun o => hb1.cell (p := ⟨w.heap.size, o, none⟩) (by simp; omega)
        have r1 := fun o => hb1.cell (p := ⟨w.heap.size + 1, o, none⟩) (by simp)
        have f1 := fun o => hb1.frozen (p := ⟨w.heap.size, o, none⟩) (by simp; omega)
        have g1 := fun o => hb1.frozen (p := ⟨w.heap.size + 1, o, none⟩) (by simp)
        have B1 : Below w.heap.size w w1 := Below.trans (b := (w.alloc (.cells #[.string (str t)] 9)).alloc (.cells #[.int .u32 0] 35)) (by repeat (first | exact Below.refl _ _ | refine Below.drew ?_ | refine Below.alloc ?_ (by first | omega | (simp; done) | (simp; omega)) _ | refine Below.setCell ?_ (by first | omega | (simp; done) | (simp; omega)) _ | refine Below.trans ?_ (Below.mono (by assumption) (by first | omega | (simp; done) | (simp; omega))))) (hb1.mono (by simp; omega))
        go_wp2_with (fail)
        go_end0
        simp only []
        go_at_K
        go_wp2_with (fail)
        have B1' : Below w.heap.size w ((w1.setCell ⟨w.heap.size, 0, none⟩ (.string (str tt))).setCell ⟨w.heap.size + 1, 0, none⟩ (.int .u32 256)) := (B1.setCell (Nat.le_refl _) _).setCell (by show w.heap.size ≤ w.heap.size + 1; omega) _
        refine (CR.out _ (HM.out _ B1')).mono ?_
        rintro e w2 ⟨rfl, hb2⟩
        have hz2 := hb2.size
        simp only [World.size_setCell] at hz2
        have q2 := fun o => hb2.cell (p := ⟨w.heap.size, o, none⟩) (by show w.heap.size < _; simp; omega)
        have r2 := fun o => hb2.cell (p := ⟨w.heap.size + 1, o, none⟩) (by show w.heap.size + 1 < _; simp; omega)
        have B2 : Below w.heap.size w w2 := B1'.trans (hb2.mono B1'.size)
        go_wp2_with (fail)
        go_ret2
        exact RetV.of rfl B2
      | some m =>
        have hm := (show_readB hr).2
        rw [setV_some hr] at CR
        by_cases h256 : 256 ≤ m
        · have V := Lib.hid (maskV_none (t := t) (by rw [RM.out, hr]; exact if_pos (.inl h256)))
          have d1 : decide ((256 : Int) ≤ (m : Int)) = true := by simp; omega
          clear hr RM h256
          rw [V.out]
          go_enter Tryd.func51, Tryd.ntmps51
          go_wp2_with (first | (go_at_call 86; refine Stop.out ?_) | go_in)
          refine Stop.mk ((CS.out _).mono ?_)
          rintro e w1 ⟨rfl, hb1⟩
          have hz1 := hb1.size
          simp only [World.size_alloc] at hz1
          have q1 := fun o => hb1.cell (p := ⟨w.heap.size, o, none⟩) (by simp; omega)
          have r1 := fun o => hb1.cell (p := ⟨w.heap.size + 1, o, none⟩) (by simp)
          have f1 := fun o => hb1.frozen (p := ⟨w.heap.size, o, none⟩) (by simp; omega)
          have g1 := fun o => hb1.frozen (p := ⟨w.heap.size + 1, o, none⟩) (by simp)
          have B1 : Below w.heap.size w w1 := Below.trans (b := (w.alloc (.cells #[.string (str t)] 9)).alloc (.cells #[.int .u32 0] 35)) (by repeat (first | exact Below.refl _ _ | refine Below.drew ?_ | refine Below.alloc ?_ (by first | omega | (simp; done) | (simp; omega)) _ | refine Below.setCell ?_ (by first | omega | (simp; done) | (simp; omega)) _ | refine Below.trans ?_ (Below.mono (by assumption) (by first | omega | (simp; done) | (simp; omega))))) (hb1.mono (by simp; omega))
          go_wp2_with (fail)
          go_end0
          simp only []
          go_at_K
          go_wp2_with (fail)
          have B1' : Below w.heap.size w ((w1.setCell ⟨w.heap.size, 0, none⟩ (.string (str tt))).setCell ⟨w.heap.size + 1, 0, none⟩ (.int .u32 256)) := (B1.setCell (Nat.le_refl _) _).setCell (by show w.heap.size ≤ w.heap.size + 1; omega) _
          refine (CR.out _ (HM.out _ B1')).mono ?_
          rintro e w2 ⟨rfl, hb2⟩
          have hz2 := hb2.size
          simp only [World.size_setCell] at hz2
          have q2 := fun o => hb2.cell (p := ⟨w.heap.size, o, none⟩) (by show w.heap.size < _; simp; omega)
          have r2 := fun o => hb2.cell (p := ⟨w.heap.size + 1, o, none⟩) (by show w.heap.size + 1 < _; simp; omega)
          have B2 : Below w.heap.size w w2 := B1'.trans (hb2.mono B1'.size)
          go_wp2_with (fail)
          go_ret2
          exact RetV.of rfl B2
        · have d1 : decide ((256 : Int) ≤ (m : Int)) = false := by simp; omega
          by_cases h0 : m = 0
          · have V := Lib.hid (maskV_none (t := t) (by rw [RM.out, hr]; exact if_pos (.inr h0)))
            have d2 : ((m : Int) == 0) = true := by rw [beq_iff_eq]; omega
            clear hr RM h256 h0
            rw [V.out]
            go_enter Tryd.func51, Tryd.ntmps51
            go_wp2_with (first | (go_at_call 86; refine Stop.out ?_) | go_in)
            refine Stop.mk ((CS.out _).mono ?_)
            rintro e w1 ⟨rfl, hb1⟩
            have hz1 := hb1.size
            simp only [World.size_alloc] at hz1
            have q1 := fun o => hb1.cell (p := ⟨w.heap.size, o, none⟩) (by simp; omega)
            have r1 := fun o => hb1.cell (p := ⟨w.heap.size + 1, o, none⟩) (by simp)
            have f1 := fun o => hb1.frozen (p := ⟨w.heap.size, o, none⟩) (by simp; omega)
            have g1 := fun o => hb1.frozen (p := ⟨w.heap.size + 1, o, none⟩) (by simp)
            have B1 : Below w.heap.size w w1 := Below.trans (b := (w.alloc (.cells #[.string (str t)] 9)).alloc (.cells #[.int .u32 0] 35)) (by repeat (first | exact Below.refl _ _ | refine Below.drew ?_ | refine Below.alloc ?_ (by first | omega | (simp; done) | (simp; omega)) _ | refine Below.setCell ?_ (by first | omega | (simp; done) | (simp; omega)) _ | refine Below.trans ?_ (Below.mono (by assumption) (by first | omega | (simp; done) | (simp; omega))))) (hb1.mono (by simp; omega))
            go_wp2_with (fail)
            go_end0
            simp only []
            go_at_K
            go_wp2_with (fail)
            have B1' : Below w.heap.size w ((w1.setCell ⟨w.heap.size, 0, none⟩ (.string (str tt))).setCell ⟨w.heap.size + 1, 0, none⟩ (.int .u32 256)) := (B1.setCell (Nat.le_refl _) _).setCell (by show w.heap.size ≤ w.heap.size + 1; omega) _
            refine (CR.out _ (HM.out _ B1')).mono ?_
            rintro e w2 ⟨rfl, hb2⟩
            have hz2 := hb2.size
            simp only [World.size_setCell] at hz2
            have q2 := fun o => hb2.cell (p := ⟨w.heap.size, o, none⟩) (by show w.heap.size < _; simp; omega)
            have r2 := fun o => hb2.cell (p := ⟨w.heap.size + 1, o, none⟩) (by show w.heap.size + 1 < _; simp; omega)
            have B2 : Below w.heap.size w w2 := B1'.trans (hb2.mono B1'.size)
            go_wp2_with (fail)
            go_ret2
            exact RetV.of rfl B2
          · have V := Lib.hid (maskV_some (t := t) (s := m + 256) (by rw [RM.out, hr]; exact if_neg (by omega)))
            have d2 : ((m : Int) == 0) = false := by rw [beq_eq_false_iff_ne]; omega
            have hb8 : m.testBit 8 = false := by rw [bit8_off (by omega)]; omega
            have ho : bits .or .u32 (m : Int) 256 = ((m + 256 : Nat) : Int) := by
              have := or_u32 m 256 hm (by omega)
              rw [show m ||| 256 = m + 256 from or_pow 8 m hb8] at this
              exact this
            clear hr RM h256 h0 hb8
            rw [V.out]
            go_enter Tryd.func51, Tryd.ntmps51
            go_wp2_with (first | (go_at_call 86; refine Stop.out ?_) | go_in)
            refine Stop.mk ((CS.out _).mono ?_)
            rintro e w1 ⟨rfl, hb1⟩
            have hz1 := hb1.size
            simp only [World.size_alloc] at hz1
            have q1 := fun o => hb1.cell (p := ⟨w.heap.size, o, none⟩) (by simp; omega)
            have r1 := fun o => hb1.cell (p := ⟨w.heap.size + 1, o, none⟩) (by simp)
            have f1 := fun o => hb1.frozen (p := ⟨w.heap.size, o, none⟩) (by simp; omega)
            have g1 := fun o => hb1.frozen (p := ⟨w.heap.size + 1, o, none⟩) (by simp)
            have B1 : Below w.heap.size w w1 := Below.trans (b := (w.alloc (.cells #[.string (str t)] 9)).alloc (.cells #[.int .u32 0] 35)) (by repeat (first | exact Below.refl _ _ | refine Below.drew ?_ | refine Below.alloc ?_ (by first | omega | (simp; done) | (simp; omega)) _ | refine Below.setCell ?_ (by first | omega | (simp; done) | (simp; omega)) _ | refine Below.trans ?_ (Below.mono (by assumption) (by first | omega | (simp; done) | (simp; omega))))) (hb1.mono (by simp; omega))
            go_wp2_with (fail)
            go_end0
            simp only []
            go_at_K
            go_wp2_with (fail)
            have B1' : Below w.heap.size w ((w1.setCell ⟨w.heap.size, 0, none⟩ (.string (str tt))).setCell ⟨w.heap.size + 1, 0, none⟩ (.int .u32 256)) := (B1.setCell (Nat.le_refl _) _).setCell (by show w.heap.size ≤ w.heap.size + 1; omega) _
            refine (CR.out _ (HM.out _ B1')).mono ?_
            rintro e w2 ⟨rfl, hb2⟩
            have hz2 := hb2.size
            simp only [World.size_setCell] at hz2
            have q2 := fun o => hb2.cell (p := ⟨w.heap.size, o, none⟩) (by show w.heap.size < _; simp; omega)
            have r2 := fun o => hb2.cell (p := ⟨w.heap.size + 1, o, none⟩) (by show w.heap.size + 1 < _; simp; omega)
            have B2 : Below w.heap.size w w2 := B1'.trans (hb2.mono B1'.size)
            go_wp2_with (fail)
            go_ret2
            exact RetV.of rfl B2
end Go.Proofs.YtkofjkadmknmjaaDoor
namespace Go.Proofs.YtkofjkadmknmjaaDoor
open Go.RowKit

/-- The mask of fields and labels. -/
def makeN (lab : Bool) (l : List Int) : Nat := (maskOf l &&& 255) ||| (if lab then 256 else 0)
set_option maxHeartbeats 400000 in
theorem c_mask_MakeA (lab : Bool) (l : List Int) (A : Option Addr) (c : Nat) (w : World) (h : InI w A c l) :
    Calls Tryd.prog 58 #[.bool lab, .slice A l.length c] w (RetV w (.int .u32 (makeN lab l))) := by
  have hb1 := maskOf_lt l
  have ho : bits .and .u32 (maskOf l : Int) 255 = ((maskOf l &&& 255 : Nat) : Int) := and_u32 (maskOf l) 255 hb1 (by omega)
  have H := Lib.hid h
  clear h
  have h2 : maskOf l &&& 255 < 4294967296 := Nat.and_lt_two_pow (n := 32) _ (by omega)
  obtain ⟨q, hq⟩ : ∃ q, maskOf l &&& 255 = q := ⟨_, rfl⟩
  rw [hq] at ho h2
  cases lab
  · have E := Lib.hid (show makeN false l = q by unfold makeN; rw [hq]; simp)
    clear hq
    go_enter Tryd.func58, Tryd.ntmps58
    go_wp2_with (fail)
    refine (c_bits_OfA l A c _ H.out).mono ?_
    rintro e w1 ⟨rfl, hb3⟩
    go_wp2_with (fail)
    go_ret
    exact RetV.of (by rw [E.out]; rfl) hb3
  · have E := Lib.hid (show makeN true l = q ||| 256 by unfold makeN; rw [hq]; simp)
    have ho2 : bits .or .u32 (q : Int) 256 = ((q ||| 256 : Nat) : Int) := or_u32 q 256 h2 (by omega)
    clear hq
    go_enter Tryd.func58, Tryd.ntmps58
    go_wp2_with (fail)
    refine (c_bits_OfA l A c _ H.out).mono ?_
    rintro e w1 ⟨rfl, hb3⟩
    go_wp2_with (fail)
    go_ret
    exact RetV.of (by rw [E.out]; rfl) hb3
set_option maxHeartbeats 400000 in
theorem c_mask_Rest (m : Nat) (hm : m < 4294967296) (w : World) : Calls Tryd.prog 65 #[.int .u32 m] w (RetV w (.int .u32 (511 &&& (4294967295 - m) : Nat))) := by
  have ho : bits .andNot .u32 511 (m : Int) = ((511 &&& (4294967295 - m) : Nat) : Int) := andNot_u32 511 m (by omega) hm
  obtain ⟨q, hq⟩ : ∃ q, 511 &&& (4294967295 - m) = q := ⟨_, rfl⟩
  rw [hq] at ho ⊢
  clear hq
  go_enter Tryd.func65, Tryd.ntmps65
  go_wp2_with (fail)
  go_ret
  exact RetV.int rfl (by repeat (first | exact Below.refl _ _ | refine Below.drew ?_ | refine Below.alloc ?_ (by first | omega | (simp; done) | (simp; omega)) _ | refine Below.setCell ?_ (by first | omega | (simp; done) | (simp; omega)) _ | refine Below.trans ?_ (Below.mono (by assumption) (by first | omega | (simp; done) | (simp; omega)))))
set_option maxHeartbeats 400000 in
theorem c_mask_Both (a b : Nat) (ha : a < 4294967296) (hb : b < 4294967296) (w : World) : Calls Tryd.prog 67 #[.int .u32 a, .int .u32 b] w (RetV w (.int .u32 (a &&& b : Nat))) := by
  have ho : bits .and .u32 (a : Int) (b : Int) = ((a &&& b : Nat) : Int) := and_u32 a b ha hb
  obtain ⟨q, hq⟩ : ∃ q, a &&& b = q := ⟨_, rfl⟩
  rw [hq] at ho ⊢
  clear hq
  go_enter Tryd.func67, Tryd.ntmps67
  go_wp2_with (fail)
  go_ret
  exact RetV.int rfl (by repeat (first | exact Below.refl _ _ | refine Below.drew ?_ | refine Below.alloc ?_ (by first | omega | (simp; done) | (simp; omega)) _ | refine Below.setCell ?_ (by first | omega | (simp; done) | (simp; omega)) _ | refine Below.trans ?_ (Below.mono (by assumption) (by first | omega | (simp; done) | (simp; omega)))))
theorem readM_ex : readM [108, 44, 48] = none := by decide +kernel
theorem makeN_ex : makeN true [3, 0] = 265 := by decide +kernel
theorem showM_ex : showM 265 = [48, 44, 51, 44, 108] := by decide +kernel
theorem mask_all : ∀ m : Fin 512, makeN (m.val.testBit 8) (idx8 m.val) = m.val ∧ (511 &&& (4294967295 - m.val)) = 511 - m.val ∧ (511 &&& (4294967295 - (511 - m.val))) = m.val ∧ m.val &&& (511 - m.val) = 0 := by decide +kernel
set_option maxHeartbeats 1000000 in
theorem c_law05_awake (w : World) (hT : Tab w) (hP : PowTab w) (hM : MaxV w) : Calls Tryd.prog 55 #[] w (RetV w (.bool true)) := by
  have HT := Lib.hid (fun w' (hb : Below w.heap.size w w') => hT.below hb)
  have HP := Lib.hid (fun w' (hb : Below w.heap.size w w') => hP.below hb)
  have C1 := Lib.hid (show Calls Tryd.prog 51 #[.string (str [108, 44, 48])] w (RetV w (.tuple #[.int .u32 0, .bool false])) by
    have := c_mask_Read [108, 44, 48] (by simp) w hM
    rw [maskV_none readM_ex] at this
    exact this)
  have C2 := Lib.hid (fun w' (hb : Below w.heap.size w w') => show Calls Tryd.prog 53 #[.int .u32 265] w' (RetV w' (.string (str [48, 44, 51, 44, 108]))) by
    have := c_mask_Show 265 (by omega) w' (hT.below hb) (hP.below hb)
    rw [showM_ex] at this
    exact this)
  have C3 := Lib.hid (fun (w' : World) => show Calls Tryd.prog 58 #[.bool true, .slice (some ⟨w'.heap.size, 0, none⟩) 2 2] (w'.alloc (.cells #[.int .i64 3, .int .i64 0] 3)) (RetV (w'.alloc (.cells #[.int .i64 3, .int .i64 0] 3)) (.int .u32 265)) by
    have := c_mask_MakeA true [3, 0] (some ⟨w'.heap.size, 0, none⟩) 2 (w'.alloc (.cells #[.int .i64 3, .int .i64 0] 3)) ⟨by simp, by omega, by simp, .inr ⟨w'.heap.size, 0, rfl, by simp, fun i hi j u hu => by
      have hj : j < 1 := (List.getElem?_eq_some_iff.1 hu).1
      obtain rfl : j = 0 := by omega
      simp only [List.length_cons, List.length_nil] at hi
      rw [World.cell?_alloc_new]
      have : i = 0 ∨ i = 1 := by omega
      rcases this with rfl | rfl <;> (simp [ic] at hu ⊢; exact hu)⟩⟩
    rw [makeN_ex] at this
    exact this)
  clear hT hP hM HT HP
  go_enter Tryd.func55, Tryd.ntmps55
  go_wp2_with (fail)
  refine C1.out.mono ?_
  rintro e w1 ⟨rfl, hb1⟩
  go_wp2_with (fail)
  refine (C3.out _).mono ?_
  rintro e w2 ⟨rfl, hb2⟩
  have B2 : Below w.heap.size w w2 := Below.trans (b := w1.alloc (.cells #[.int .i64 3, .int .i64 0] 3)) (hb1.alloc hb1.size _) (hb2.mono (by have := hb1.size; simp; omega))
  go_wp2_with (fail)
  refine (C2.out _ B2).mono ?_
  rintro e w3 ⟨rfl, hb3⟩
  go_wp2_with (fail)
  go_ret
  exact RetV.bool rfl (B2.trans (hb3.mono B2.size))
set_option maxHeartbeats 2000000 in
set_option maxRecDepth 4000 in
theorem c_law05_MaskBack (m : Nat) (hm : m < 4294967296) (w : World) (hT : Tab w) (hP : PowTab w) (hM : MaxV w) : Calls Tryd.prog 12 #[.int .u32 m] w (RetV w (.bool true)) := by
  have HT := Lib.hid (fun w' (hb : Below w.heap.size w w') => hT.below hb)
  have HP := Lib.hid (fun w' (hb : Below w.heap.size w w') => hP.below hb)
  have HM := Lib.hid (fun w' (hb : Below w.heap.size w w') => hM.below hb)
  have B := Lib.hid (Below.refl w.heap.size w)
  clear hT hP hM
  have CC := Lib.hid (fun w' => c_mask_Check m hm w')
  have CR := Lib.hid (fun w' => c_ref05_Check m w')
  by_cases h : m ≤ 511
  · obtain ⟨e1, e2, e3, e4⟩ := mask_all ⟨m, by omega⟩
    simp only at e1 e2 e3 e4
    rw [decide_eq_true h] at CC CR
    have hl : (showM m).length ≤ 1000 := by
      by_cases h8 : m < 256
      · rw [showM_low h8]; have := showB_len m hm; omega
      · by_cases he : m = 256
        · subst he; rw [showM_lab]; simp
        · rw [showM_high h (by omega), List.length_append]
          have := showB_len (m - 256) (by omega)
          simp
          omega
    have RD := Lib.hid (fun w' (hmx : MaxV w') => show Calls Tryd.prog 51 #[.string (str (showM m))] w' (RetV w' (.tuple #[.int .u32 m, .bool true])) by
      have := c_mask_Read (showM m) (by omega) w' hmx
      rw [maskV_some (readM_show h)] at this
      exact this)
    have C1 := Lib.hid (fun (A : Option Addr) (c : Nat) w' (hi : InI w' A c (idx8 m)) => show Calls Tryd.prog 58 #[.bool (m.testBit 8), .slice A (idx8 m).length c] w' (RetV w' (.int .u32 m)) by
      have := c_mask_MakeA (m.testBit 8) (idx8 m) A c w' hi
      rw [e1] at this
      exact this)
    have C2 := Lib.hid (fun w' => show Calls Tryd.prog 65 #[.int .u32 m] w' (RetV w' (.int .u32 (511 - m : Nat))) by
      have := c_mask_Rest m hm w'
      rw [e2] at this
      exact this)
    have C3 := Lib.hid (fun w' => show Calls Tryd.prog 65 #[.int .u32 (511 - m : Nat)] w' (RetV w' (.int .u32 m)) by
      have := c_mask_Rest (511 - m) (by omega) w'
      rw [e3] at this
      exact this)
    have C4 := Lib.hid (fun w' => show Calls Tryd.prog 67 #[.int .u32 m, .int .u32 (511 - m : Nat)] w' (RetV w' (.int .u32 0)) by
      have := c_mask_Both m (511 - m) hm (by omega) w'
      rw [e4] at this
      exact this)
    obtain ⟨k, hk⟩ : ∃ k, 511 - m = k := ⟨_, rfl⟩
    rw [hk] at C2 C3 C4
    have h8l := idx8_len m
    have km : ((m : Int) == (m : Int)) = true := by simp
    clear e1 e2 e3 e4 h hl hk
    go_enter Tryd.func12, Tryd.ntmps12
    go_wp2_with (fail)
    refine (CR.out _).mono ?_
    rintro e w1 ⟨rfl, hb1⟩
    replace B := Lib.hid (B.out.trans (hb1.mono B.out.size))
    clear hb1
    go_wp2_with (fail)
    refine (c_mask_Show m hm _ (HT.out _ B.out) (HP.out _ B.out)).mono ?_
    rintro e w1 ⟨rfl, hb1⟩
    replace B := Lib.hid (B.out.trans (hb1.mono B.out.size))
    clear hb1
    go_wp2_with (fail)
    refine (RD.out _ (HM.out _ B.out)).mono ?_
    rintro e w1 ⟨rfl, hb1⟩
    replace B := Lib.hid (B.out.trans (hb1.mono B.out.size))
    clear hb1
    go_wp2_with (fail)
    refine (c_mask_Labels m hm _).mono ?_
    rintro e w1 ⟨rfl, hb1⟩
    replace B := Lib.hid (B.out.trans (hb1.mono B.out.size))
    clear hb1
    go_wp2_with (fail)
    refine (c_mask_Fields m hm _ (HT.out _ B.out)).mono ?_
    rintro e w2 ⟨v2, rfl, own2, hb2⟩
    obtain ⟨A2, c2, rfl, hin⟩ := In.of_own ic_len own2 (by omega)
    have HI := Lib.hid hin
    replace B := Lib.hid (B.out.trans (hb2.mono B.out.size))
    clear hb2 own2 hin
    go_wp2_with (fail)
    refine (C1.out A2 c2 _ HI.out).mono ?_
    rintro e w1 ⟨rfl, hb1⟩
    replace B := Lib.hid (B.out.trans (hb1.mono B.out.size))
    clear hb1
    go_wp2_with (fail)
    refine (C2.out _).mono ?_
    rintro e w1 ⟨rfl, hb1⟩
    replace B := Lib.hid (B.out.trans (hb1.mono B.out.size))
    clear hb1
    go_wp2_with (fail)
    refine (C4.out _).mono ?_
    rintro e w1 ⟨rfl, hb1⟩
    replace B := Lib.hid (B.out.trans (hb1.mono B.out.size))
    clear hb1
    go_wp2_with (fail)
    refine (C2.out _).mono ?_
    rintro e w1 ⟨rfl, hb1⟩
    replace B := Lib.hid (B.out.trans (hb1.mono B.out.size))
    clear hb1
    go_wp2_with (fail)
    refine (C3.out _).mono ?_
    rintro e w1 ⟨rfl, hb1⟩
    replace B := Lib.hid (B.out.trans (hb1.mono B.out.size))
    clear hb1
    go_wp2_with (fail)
    refine (c_law05_awake _ (HT.out _ B.out) (HP.out _ B.out) (HM.out _ B.out)).mono ?_
    rintro e w1 ⟨rfl, hb1⟩
    replace B := Lib.hid (B.out.trans (hb1.mono B.out.size))
    clear hb1
    go_wp2_with (fail)
    go_ret
    exact RetV.bool rfl B.out
  · rw [decide_eq_false h] at CC CR
    clear h
    go_enter Tryd.func12, Tryd.ntmps12
    go_wp2_with (fail)
    refine (CR.out _).mono ?_
    rintro e w1 ⟨rfl, hb1⟩
    replace B := Lib.hid (B.out.trans (hb1.mono B.out.size))
    clear hb1
    go_wp2_with (fail)
    refine (CC.out _).mono ?_
    rintro e w1 ⟨rfl, hb1⟩
    replace B := Lib.hid (B.out.trans (hb1.mono B.out.size))
    clear hb1
    go_wp2_with (fail)
    refine (c_law05_awake _ (HT.out _ B.out) (HP.out _ B.out) (HM.out _ B.out)).mono ?_
    rintro e w1 ⟨rfl, hb1⟩
    replace B := Lib.hid (B.out.trans (hb1.mono B.out.size))
    clear hb1
    go_wp2_with (fail)
    go_ret
    exact RetV.bool rfl B.out
end Go.Proofs.YtkofjkadmknmjaaDoor
