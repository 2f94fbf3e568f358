/-
  Lemmas (walks and plain laws), in one text.
-/
import Derived.Test.YtkofjkadmknmjaaDoorMt9
import Derived.Test.YtkofjkadmknmjaaDoorRows
import Derived.WalkKit
import Derived.WalkSpells
import Derived.WalkLawsBesides
import Derived.Lib.Hide
import Derived.Deep.QuietTactic
import Derived.BigQuiet
import Derived.Maps.AppendAt
import Derived.WalkSmall
import Derived.ProofKit
import Derived.OpenShut
import Derived.JoinedCond
import Derived.Deep.Slices
import Derived.Deep.Fields
import Derived.Carry
import Derived.HandedShaped
import Derived.Shelf.Small.Wraps
import Derived.Shelf.Utf8.RuneCount
import Derived.Shelf.Strconv.Itoa0
import Derived.Shelf.Strconv.Itoa1
import Derived.Shelf.LaysM
import Derived.Shelf.Strconv.Itoa2
import Derived.Shelf.Strconv.Itoa3
import Derived.Shelf.Strings.Search1
import Derived.Shelf.Strings.Search2
import Derived.Shelf.Strings.Search3
import Derived.Shelf.Strings.Count
import Derived.Shelf.Strings.Shaped
import Derived.Shelf.Strings.Prefix
import Derived.Shelf.Strings.Split
import Derived.Shelf.Strings.SplitShaped
import Derived.Shelf.Unicode.DecodeSlow
import Derived.Test.YtkofjkadmknmjaaDoorProg
import Derived.Deep.AppendSrc
import Derived.Lib.AppendStr
import Derived.Laws.BytesArg
import Derived.Lib.AppendIntMem
import Derived.Lib.ItoaLen
import Derived.Lib.TrailingZeros
import Derived.Lib.SplitLaws
import Derived.Lib.ItoaNum
import Derived.Shelf.Strings.PiecesUse
import Derived.Shelf.Spec.TrailingZeros
import Derived.RangeFuncNested
import Derived.RangeFuncBound
import Derived.RangeFuncCalls
import Derived.RangeFuncLeaves
import Derived.Shelf.Abstract
import Derived.Shelf.RegionOpen
import Derived.OwnWalkIn
import Derived.TacticsInMore
import Derived.LoopNIn
import Derived.LoopIn
import Derived.Test.YtkofjkadmknmjaaDoorTie
import Derived.Lib.LaidTab
import Derived.LaidMore
import Derived.Lay
import Derived.Stop.LaidErr
import Derived.SevenTiedAt
import Derived.Test.YtkofjkadmknmjaaDoorCards
import Derived.StillTail
import Derived.OrdersIn
import Derived.ControlIn
import Derived.Lib.BitFns
import Derived.Deep.CutBlock
import Derived.Deep.DeepCutAuto
import Derived.Laws.IdiomStrings
import Derived.Outline
import Derived.IntWalk
import Derived.Lib.Tables
import Derived.Lib.Strings
namespace Go.Proofs.YtkofjkadmknmjaaDoor
open Go.RowKit

set_option maxHeartbeats 2000000 in
set_option maxRecDepth 10000 in
theorem c_mask_Read (t : List UInt8) (ht : t.length ≤ 1000000) (w : World) (hM : MaxV w) : Calls Tryd.prog 51 #[.string (str t)] w (RetV w (maskV t)) := by
  have HM := Lib.hid (fun w' (hb : Below w.heap.size w w') => hM.below hb)
  clear hM
  by_cases h108 : t = [108]
  · subst h108
    rw [maskV_some (s := 256) rfl]
    go_enter Tryd.func51, Tryd.ntmps51
    go_wp2_with (fail)
    go_ret2
    exact RetV.of rfl (by repeat (first | exact Below.refl _ _ | refine Below.drew ?_ | refine Below.alloc ?_ (by first | omega | (simp; done) | (simp; omega)) _ | refine Below.setCell ?_ (by first | omega | (simp; done) | (simp; omega)) _ | refine Below.trans ?_ (Below.mono (by assumption) (by first | omega | (simp; done) | (simp; omega)))))
  · have e1 : (t == [108]) = false := by simpa using h108
    cases hsuf : Lib.hasSuffix t [44, 108]
    · have CS := Lib.hid (fun w' => show Calls Tryd.prog 86 #[.string (str t), .string (str [44, 108])] w' (RetV w' (.tuple #[.string (str (Lib.trimSuffix t [44, 108])), .bool false])) by have := c_CutSuffix t [44, 108] w' (by omega); rw [hsuf] at this; exact this)
      have RM := Lib.hid (show readM t = match readB t with | none => none | some m => if 256 ≤ m then none else some m by unfold readM; rw [if_neg h108, hsuf]; rfl)
      obtain ⟨tt, htt⟩ : ∃ q, Lib.trimSuffix t [44, 108] = q := ⟨_, rfl⟩
      rw [htt] at CS
      have CR := Lib.hid (fun w' (hm : MaxV w') => c_bits_Read t ht w' hm)
      clear h108 hsuf htt
      cases hr : readB t with
      | none =>
        have V := Lib.hid (maskV_none (t := t) (by rw [RM.out, hr]))
        rw [setV_none hr] at CR
        clear hr RM
        rw [V.out]
        go_enter Tryd.func51, Tryd.ntmps51
        go_wp2_with (first | (go_at_call 86; refine Stop.out ?_) | go_in)
        refine Stop.mk ((CS.out _).mono ?_)
        rintro e w1 ⟨rfl, hb1⟩
        have hz1 := hb1.size
        simp only [World.size_alloc] at hz1
        have q1 := fun o => hb1.cell (p := ⟨w.heap.size, o, none⟩) (by simp; omega)
        have r1 := fun o => hb1.cell (p := ⟨w.heap.size + 1, o, none⟩) (by simp)
        have B1 : Below w.heap.size w w1 := Below.trans (b := (w.alloc (.cells #[.string (str t)] 9)).alloc (.cells #[.int .u32 0] 35)) (by repeat (first | exact Below.refl _ _ | refine Below.drew ?_ | refine Below.alloc ?_ (by first | omega | (simp; done) | (simp; omega)) _ | refine Below.setCell ?_ (by first | omega | (simp; done) | (simp; omega)) _ | refine Below.trans ?_ (Below.mono (by assumption) (by first | omega | (simp; done) | (simp; omega))))) (hb1.mono (by simp; omega))
        go_wp2_with (fail)
        go_end0
        simp only []
        go_at_K
        go_wp2_with (fail)
        refine (CR.out _ (HM.out _ B1)).mono ?_
        rintro e w2 ⟨rfl, hb2⟩
        have q2 := fun o => hb2.cell (p := ⟨w.heap.size, o, none⟩) (by show w.heap.size < _; omega)
        have r2 := fun o => hb2.cell (p := ⟨w.heap.size + 1, o, none⟩) (by show w.heap.size + 1 < _; omega)
        have B2 : Below w.heap.size w w2 := B1.trans (hb2.mono B1.size)
        go_wp2_with (fail)
        go_ret2
        exact RetV.of rfl B2
      | some m =>
        have hm := (show_readB hr).2
        rw [setV_some hr] at CR
        by_cases h256 : 256 ≤ m
        · have V := Lib.hid (maskV_none (t := t) (by rw [RM.out, hr]; exact if_pos h256))
          have d1 : decide ((256 : Int) ≤ (m : Int)) = true := by simp; omega
          clear hr RM h256
          rw [V.out]
          go_enter Tryd.func51, Tryd.ntmps51
          go_wp2_with (first | (go_at_call 86; refine Stop.out ?_) | go_in)
          refine Stop.mk ((CS.out _).mono ?_)
          rintro e w1 ⟨rfl, hb1⟩
          have hz1 := hb1.size
          simp only [World.size_alloc] at hz1
          have q1 := fun o => hb1.cell (p := ⟨w.heap.size, o, none⟩) (by simp; omega)
          have r1 := fun o => hb1.cell (p := ⟨w.heap.size + 1, o, none⟩) (by simp)
          have B1 : Below w.heap.size w w1 := Below.trans (b := (w.alloc (.cells #[.string (str t)] 9)).alloc (.cells #[.int .u32 0] 35)) (by repeat (first | exact Below.refl _ _ | refine Below.drew ?_ | refine Below.alloc ?_ (by first | omega | (simp; done) | (simp; omega)) _ | refine Below.setCell ?_ (by first | omega | (simp; done) | (simp; omega)) _ | refine Below.trans ?_ (Below.mono (by assumption) (by first | omega | (simp; done) | (simp; omega))))) (hb1.mono (by simp; omega))
          go_wp2_with (fail)
          go_end0
          simp only []
          go_at_K
          go_wp2_with (fail)
          refine (CR.out _ (HM.out _ B1)).mono ?_
          rintro e w2 ⟨rfl, hb2⟩
          have q2 := fun o => hb2.cell (p := ⟨w.heap.size, o, none⟩) (by show w.heap.size < _; omega)
          have r2 := fun o => hb2.cell (p := ⟨w.heap.size + 1, o, none⟩) (by show w.heap.size + 1 < _; omega)
          have B2 : Below w.heap.size w w2 := B1.trans (hb2.mono B1.size)
          go_wp2_with (fail)
          go_ret2
          exact RetV.of rfl B2
        · have V := Lib.hid (maskV_some (t := t) (s := m) (by rw [RM.out, hr]; exact if_neg h256))
          have d1 : decide ((256 : Int) ≤ (m : Int)) = false := by simp; omega
          have ho : bits .or .u32 (m : Int) 0 = (m : Int) := by have := or_u32 m 0 hm (by omega); rw [Nat.or_zero] at this; exact this
          clear hr RM h256
          rw [V.out]
          go_enter Tryd.func51, Tryd.ntmps51
          go_wp2_with (first | (go_at_call 86; refine Stop.out ?_) | go_in)
          refine Stop.mk ((CS.out _).mono ?_)
          rintro e w1 ⟨rfl, hb1⟩
          have hz1 := hb1.size
          simp only [World.size_alloc] at hz1
          have q1 := fun o => hb1.cell (p := ⟨w.heap.size, o, none⟩) (by simp; omega)
          have r1 := fun o => hb1.cell (p := ⟨w.heap.size + 1, o, none⟩) (by simp)
          have B1 : Below w.heap.size w w1 := Below.trans (b := (w.alloc (.cells #[.string (str t)] 9)).alloc (.cells #[.int .u32 0] 35)) (by repeat (first | exact Below.refl _ _ | refine Below.drew ?_ | refine Below.alloc ?_ (by first | omega | (simp; done) | (simp; omega)) _ | refine Below.setCell ?_ (by first | omega | (simp; done) | (simp; omega)) _ | refine Below.trans ?_ (Below.mono (by assumption) (by first | omega | (simp; done) | (simp; omega))))) (hb1.mono (by simp; omega))
          go_wp2_with (fail)
          go_end0
          simp only []
          go_at_K
          go_wp2_with (fail)
          refine (CR.out _ (HM.out _ B1)).mono ?_
          rintro e w2 ⟨rfl, hb2⟩
          have q2 := fun o => hb2.cell (p := ⟨w.heap.size, o, none⟩) (by show w.heap.size < _; omega)
          have r2 := fun o => hb2.cell (p := ⟨w.heap.size + 1, o, none⟩) (by show w.heap.size + 1 < _; omega)
          have B2 : Below w.heap.size w w2 := B1.trans (hb2.mono B1.size)
          go_wp2_with (fail)
          go_ret2
          exact RetV.of rfl B2
    · have CS := Lib.hid (fun w' => show Calls Tryd.prog 86 #[.string (str t), .string (str [44, 108])] w' (RetV w' (.tuple #[.string (str (Lib.trimSuffix t [44, 108])), .bool true])) by have := c_CutSuffix t [44, 108] w' (by omega); rw [hsuf] at this; exact this)
      have htr : Lib.trimSuffix t [44, 108] = t.take (t.length - 2) := by unfold Lib.trimSuffix; rw [hsuf]; rfl
      have RM := Lib.hid (show readM t = match readB (t.take (t.length - 2)) with | none => none | some m => if 256 ≤ m ∨ m = 0 then none else some (m + 256) by unfold readM; rw [if_neg h108, hsuf]; rfl)
      have hl2 : (t.take (t.length - 2)).length ≤ 1000000 := by rw [List.length_take]; omega
      obtain ⟨tt, htt⟩ : ∃ q, t.take (t.length - 2) = q := ⟨_, rfl⟩
      rw [htr, htt] at CS
      rw [htt] at hl2
      replace RM := Lib.hid (by have := RM.out; rw [htt] at this; exact this)
      have CR := Lib.hid (fun w' (hm : MaxV w') => c_bits_Read tt hl2 w' hm)
      have l0 : decide ((0 : Int) < 256) = true := by decide
      clear h108 hsuf htr htt hl2
      cases hr : readB tt with
      | none =>
        have V := Lib.hid (maskV_none (t := t) (by rw [RM.out, hr]))
        rw [setV_none hr] at CR
        clear hr RM
        rw [V.out]
        go_enter Tryd.func51, Tryd.ntmps51
        go_wp2_with (first | (go_at_call 86; refine Stop.out ?_) | go_in)
        refine Stop.mk ((CS.out _).mono ?_)
        rintro e w1 ⟨rfl, hb1⟩
        have hz1 := hb1.size
        simp only [World.size_alloc] at hz1
        have q1 := fun o => hb1.cell (p := ⟨w.heap.size, o, none⟩) (by simp; omega)
        have r1 := fun o => hb1.cell (p := ⟨w.heap.size + 1, o, none⟩) (by simp)
        have f1 := fun o => hb1.frozen (p := ⟨w.heap.size, o, none⟩) (by simp; omega)
        have g1 := fun o => hb1.frozen (p := ⟨w.heap.size + 1, o, none⟩) (by simp)
        have B1 : Below w.heap.size w w1 := Below.trans (b := (w.alloc (.cells #[.string (str t)] 9)).alloc (.cells #[.int .u32 0] 35)) (by repeat (first | exact Below.refl _ _ | refine Below.drew ?_ | refine Below.alloc ?_ (by first | omega | (simp; done) | (simp; omega)) _ | refine Below.setCell ?_ (by first | omega | (simp; done) | (simp; omega)) _ | refine Below.trans ?_ (Below.mono (by assumption) (by first | omega | (simp; done) | (simp; omega))))) (hb1.mono (by simp; omega))
        go_wp2_with (fail)
        go_end0
        simp only []
        go_at_K
        go_wp2_with (fail)
        have B1' : Below w.heap.size w ((w1.setCell ⟨w.heap.size, 0, none⟩ (.string (str tt))).setCell ⟨w.heap.size + 1, 0, none⟩ (.int .u32 256)) := (B1.setCell (Nat.le_refl _) _).setCell (by show w.heap.size ≤ w.heap.size + 1; omega) _
        refine (CR.out _ (HM.out _ B1')).mono ?_
        rintro e w2 ⟨rfl, hb2⟩
        have hz2 := hb2.size
        simp only [World.size_setCell] at hz2
        have q2 := fun o => hb2.cell (p := ⟨w.heap.size, o, none⟩) (by show w.heap.size < _; simp; omega)
        have r2 := fun o => hb2.cell (p := ⟨w.heap.size + 1, o, none⟩) (by show w.heap.size + 1 < _; simp; omega)
        have B2 : Below w.heap.size w w2 := B1'.trans (hb2.mono B1'.size)
        go_wp2_with (fail)
        go_ret2
        exact RetV.of rfl B2
      | some m =>
        have hm := (show_readB hr).2
        rw [setV_some hr] at CR
        by_cases h256 : 256 ≤ m
        · have V := Lib.hid (maskV_none (t := t) (by rw [RM.out, hr]; exact if_pos (.inl h256)))
          have d1 : decide ((256 : Int) ≤ (m : Int)) = true := by simp; omega
          clear hr RM h256
          rw [V.out]
          go_enter Tryd.func51, Tryd.ntmps51
          go_wp2_with (first | (go_at_call 86; refine Stop.out ?_) | go_in)
          refine Stop.mk ((CS.out _).mono ?_)
          rintro e w1 ⟨rfl, hb1⟩
          have hz1 := hb1.size
          simp only [World.size_alloc] at hz1
          have q1 := fun o => hb1.cell (p := ⟨w.heap.size, o, none⟩) (by simp; omega)
          have r1 := fun o => hb1.cell (p := ⟨w.heap.size + 1, o, none⟩) (by simp)
          have f1 := fun o => hb1.frozen (p := ⟨w.heap.size, o, none⟩) (by simp; omega)
          have g1 := fun o => hb1.frozen (p := ⟨w.heap.size + 1, o, none⟩) (by simp)
          have B1 : Below w.heap.size w w1 := Below.trans (b := (w.alloc (.cells #[.string (str t)] 9)).alloc (.cells #[.int .u32 0] 35)) (by repeat (first | exact Below.refl _ _ | refine Below.drew ?_ | refine Below.alloc ?_ (by first | omega | (simp; done) | (simp; omega)) _ | refine Below.setCell ?_ (by first | omega | (simp; done) | (simp; omega)) _ | refine Below.trans ?_ (Below.mono (by assumption) (by first | omega | (simp; done) | (simp; omega))))) (hb1.mono (by simp; omega))
          go_wp2_with (fail)
          go_end0
          simp only []
          go_at_K
          go_wp2_with (fail)
          have B1' : Below w.heap.size w ((w1.setCell ⟨w.heap.size, 0, none⟩ (.string (str tt))).setCell ⟨w.heap.size + 1, 0, none⟩ (.int .u32 256)) := (B1.setCell (Nat.le_refl _) _).setCell (by show w.heap.size ≤ w.heap.size + 1; omega) _
          refine (CR.out _ (HM.out _ B1')).mono ?_
          rintro e w2 ⟨rfl, hb2⟩
          have hz2 := hb2.size
          simp only [World.size_setCell] at hz2
          have q2 := fun o => hb2.cell (p := ⟨w.heap.size, o, none⟩) (by show w.heap.size < _; simp; omega)
          have r2 := fun o => hb2.cell (p := ⟨w.heap.size + 1, o, none⟩) (by show w.heap.size + 1 < _; simp; omega)
          have B2 : Below w.heap.size w w2 := B1'.trans (hb2.mono B1'.size)
          go_wp2_with (fail)
          go_ret2
          exact RetV.of rfl B2
        · have d1 : decide ((256 : Int) ≤ (m : Int)) = false := by simp; omega
          by_cases h0 : m = 0
          · have V := Lib.hid (maskV_none (t := t) (by rw [RM.out, hr]; exact if_pos (.inr h0)))
            have d2 : ((m : Int) == 0) = true := by rw [beq_iff_eq]; omega
            clear hr RM h256 h0
            rw [V.out]
            go_enter Tryd.func51, Tryd.ntmps51
            go_wp2_with (first | (go_at_call 86; refine Stop.out ?_) | go_in)
            refine Stop.mk ((CS.out _).mono ?_)
            rintro e w1 ⟨rfl, hb1⟩
            have hz1 := hb1.size
            simp only [World.size_alloc] at hz1
            have q1 := fun o => hb1.cell (p := ⟨w.heap.size, o, none⟩) (by simp; omega)
            have r1 := fun o => hb1.cell (p := ⟨w.heap.size + 1, o, none⟩) (by simp)
            have f1 := fun o => hb1.frozen (p := ⟨w.heap.size, o, none⟩) (by simp; omega)
            have g1 := fun o => hb1.frozen (p := ⟨w.heap.size + 1, o, none⟩) (by simp)
            have B1 : Below w.heap.size w w1 := Below.trans (b := (w.alloc (.cells #[.string (str t)] 9)).alloc (.cells #[.int .u32 0] 35)) (by repeat (first | exact Below.refl _ _ | refine Below.drew ?_ | refine Below.alloc ?_ (by first | omega | (simp; done) | (simp; omega)) _ | refine Below.setCell ?_ (by first | omega | (simp; done) | (simp; omega)) _ | refine Below.trans ?_ (Below.mono (by assumption) (by first | omega | (simp; done) | (simp; omega))))) (hb1.mono (by simp; omega))
            go_wp2_with (fail)
            go_end0
            simp only []
            go_at_K
            go_wp2_with (fail)
            have B1' : Below w.heap.size w ((w1.setCell ⟨w.heap.size, 0, none⟩ (.string (str tt))).setCell ⟨w.heap.size + 1, 0, none⟩ (.int .u32 256)) := (B1.setCell (Nat.le_refl _) _).setCell (by show w.heap.size ≤ w.heap.size + 1; omega) _
            refine (CR.out _ (HM.out _ B1')).mono ?_
            rintro e w2 ⟨rfl, hb2⟩
            have hz2 := hb2.size
            simp only [World.size_setCell] at hz2
            have q2 := fun o => hb2.cell (p := ⟨w.heap.size, o, none⟩) (by show w.heap.size < _; simp; omega)
            have r2 := fun o => hb2.cell (p := ⟨w.heap.size + 1, o, none⟩) (by show w.heap.size + 1 < _; simp; omega)
            have B2 : Below w.heap.size w w2 := B1'.trans (hb2.mono B1'.size)
            go_wp2_with (fail)
            go_ret2
            exact RetV.of rfl B2
          · have V := Lib.hid (maskV_some (t := t) (s := m + 256) (by rw [RM.out, hr]; exact if_neg (by omega)))
            have d2 : ((m : Int) == 0) = false := by rw [beq_eq_false_iff_ne]; omega
            have hb8 : m.testBit 8 = false := by rw [bit8_off (by omega)]; omega
            have ho : bits .or .u32 (m : Int) 256 = ((m + 256 : Nat) : Int) := by
              have := or_u32 m 256 hm (by omega)
              rw [show m ||| 256 = m + 256 from or_pow 8 m hb8] at this
              exact this
            clear hr RM h256 h0 hb8
            rw [V.out]
            go_enter Tryd.func51, Tryd.ntmps51
            go_wp2_with (first | (go_at_call 86; refine Stop.out ?_) | go_in)
            refine Stop.mk ((CS.out _).mono ?_)
            rintro e w1 ⟨rfl, hb1⟩
            have hz1 := hb1.size
            simp only [World.size_alloc] at hz1
            have q1 := fun o => hb1.cell (p := ⟨w.heap.size, o, none⟩) (by simp; omega)
            have r1 := fun o => hb1.cell (p := ⟨w.heap.size + 1, o, none⟩) (by simp)
            have f1 := fun o => hb1.frozen (p := ⟨w.heap.size, o, none⟩) (by simp; omega)
            have g1 := fun o => hb1.frozen (p := ⟨w.heap.size + 1, o, none⟩) (by simp)
            have B1 : Below w.heap.size w w1 := Below.trans (b := (w.alloc (.cells #[.string (str t)] 9)).alloc (.cells #[.int .u32 0] 35)) (by repeat (first | exact Below.refl _ _ | refine Below.drew ?_ | refine Below.alloc ?_ (by first | omega | (simp; done) | (simp; omega)) _ | refine Below.setCell ?_ (by first | omega | (simp; done) | (simp; omega)) _ | refine Below.trans ?_ (Below.mono (by assumption) (by first | omega | (simp; done) | (simp; omega))))) (hb1.mono (by simp; omega))
            go_wp2_with (fail)
            go_end0
            simp only []
            go_at_K
            go_wp2_with (fail)
            have B1' : Below w.heap.size w ((w1.setCell ⟨w.heap.size, 0, none⟩ (.string (str tt))).setCell ⟨w.heap.size + 1, 0, none⟩ (.int .u32 256)) := (B1.setCell (Nat.le_refl _) _).setCell (by show w.heap.size ≤ w.heap.size + 1; omega) _
            refine (CR.out _ (HM.out _ B1')).mono ?_
            rintro e w2 ⟨rfl, hb2⟩
            have hz2 := hb2.size
            simp only [World.size_setCell] at hz2
            have q2 := fun o => hb2.cell (p := ⟨w.heap.size, o, none⟩) (by show w.heap.size < _; simp; omega)
            have r2 := fun o => hb2.cell (p := ⟨w.heap.size + 1, o, none⟩) (by show w.heap.size + 1 < _; simp; omega)
            have B2 : Below w.heap.size w w2 := B1'.trans (hb2.mono B1'.size)
            go_wp2_with (fail)
            go_ret2
            exact RetV.of rfl B2
end Go.Proofs.YtkofjkadmknmjaaDoor
namespace Go.Proofs.YtkofjkadmknmjaaDoor
open Go.RowKit

/-- The mask of fields and labels. -/
def makeN (lab : Bool) (l : List Int) : Nat := (maskOf l &&& 255) ||| (if lab then 256 else 0)
set_option maxHeartbeats 400000 in
theorem c_mask_MakeA (lab : Bool) (l : List Int) (A : Option Addr) (c : Nat) (w : World) (h : InI w A c l) :
    Calls Tryd.prog 58 #[.bool lab, .slice A l.length c] w (RetV w (.int .u32 (makeN lab l))) := by
  have hb1 := maskOf_lt l
  have ho : bits .and .u32 (maskOf l : Int) 255 = ((maskOf l &&& 255 : Nat) : Int) := and_u32 (maskOf l) 255 hb1 (by omega)
  have H := Lib.hid h
  clear h
  have h2 : maskOf l &&& 255 < 4294967296 := Nat.and_lt_two_pow (n := 32) _ (by omega)
  obtain ⟨q, hq⟩ : ∃ q, maskOf l &&& 255 = q := ⟨_, rfl⟩
  rw [hq] at ho h2
  cases lab
  · have E := Lib.hid (show makeN false l = q by unfold makeN; rw [hq]; simp)
    clear hq
    go_enter Tryd.func58, Tryd.ntmps58
    go_wp2_with (fail)
    refine (c_bits_OfA l A c _ H.out).mono ?_
    rintro e w1 ⟨rfl, hb3⟩
    go_wp2_with (fail)
    go_ret
    exact RetV.of (by rw [E.out]; rfl) hb3
  · have E := Lib.hid (show makeN true l = q ||| 256 by unfold makeN; rw [hq]; simp)
    have ho2 : bits .or .u32 (q : Int) 256 = ((q ||| 256 : Nat) : Int) := or_u32 q 256 h2 (by omega)
    clear hq
    go_enter Tryd.func58, Tryd.ntmps58
    go_wp2_with (fail)
    refine (c_bits_OfA l A c _ H.out).mono ?_
    rintro e w1 ⟨rfl, hb3⟩
    go_wp2_with (fail)
    go_ret
    exact RetV.of (by rw [E.out]; rfl) hb3
set_option maxHeartbeats 400000 in
theorem c_mask_Rest (m : Nat) (hm : m < 4294967296) (w : World) : Calls Tryd.prog 65 #[.int .u32 m] w (RetV w (.int .u32 (511 &&& (4294967295 - m) : Nat))) := by
  have ho : bits .andNot .u32 511 (m : Int) = ((511 &&& (4294967295 - m) : Nat) : Int) := andNot_u32 511 m (by omega) hm
  obtain ⟨q, hq⟩ : ∃ q, 511 &&& (4294967295 - m) = q := ⟨_, rfl⟩
  rw [hq] at ho ⊢
  clear hq
  go_enter Tryd.func65, Tryd.ntmps65
  go_wp2_with (fail)
  go_ret
  exact RetV.int rfl (by repeat (first | exact Below.refl _ _ | refine Below.drew ?_ | refine Below.alloc ?_ (by first | omega | (simp; done) | (simp; omega)) _ | refine Below.setCell ?_ (by first | omega | (simp; done) | (simp; omega)) _ | refine Below.trans ?_ (Below.mono (by assumption) (by first | omega | (simp; done) | (simp; omega)))))
set_option maxHeartbeats 400000 in
theorem c_mask_Both (a b : Nat) (ha : a < 4294967296) (hb : b < 4294967296) (w : World) : Calls Tryd.prog 67 #[.int .u32 a, .int .u32 b] w (RetV w (.int .u32 (a &&& b : Nat))) := by
  have ho : bits .and .u32 (a : Int) (b : Int) = ((a &&& b : Nat) : Int) := and_u32 a b ha hb
  obtain ⟨q, hq⟩ : ∃ q, a &&& b = q := ⟨_, rfl⟩
  rw [hq] at ho ⊢
  clear hq
  go_enter Tryd.func67, Tryd.ntmps67
  go_wp2_with (fail)
  go_ret
  exact RetV.int rfl (by repeat (first | exact Below.refl _ _ | refine Below.drew ?_ | refine Below.alloc ?_ (by first | omega | (simp; done) | (simp; omega)) _ | refine Below.setCell ?_ (by first | omega | (simp; done) | (simp; omega)) _ | refine Below.trans ?_ (Below.mono (by assumption) (by first | omega | (simp; done) | (simp; omega)))))
theorem readM_ex : readM [108, 44, 48] = none := by decide +kernel
theorem makeN_ex : makeN true [3, 0] = 265 := by decide +kernel
theorem showM_ex : showM 265 = [48, 44, 51, 44, 108] := by decide +kernel
set_option maxHeartbeats 1000000 in
theorem c_law05_awake (w : World) (hT : Tab w) (hP : PowTab w) (hM : MaxV w) : Calls Tryd.prog 55 #[] w (RetV w (.bool true)) := by
  have HT := Lib.hid (fun w' (hb : Below w.heap.size w w') => hT.below hb)
  have HP := Lib.hid (fun w' (hb : Below w.heap.size w w') => hP.below hb)
  have C1 := Lib.hid (show Calls Tryd.prog 51 #[.string (str [108, 44, 48])] w (RetV w (.tuple #[.int .u32 0, .bool false])) by
    have := c_mask_Read [108, 44, 48] (by simp) w hM
    rw [maskV_none readM_ex] at this
    exact this)
  have C2 := Lib.hid (fun w' (hb : Below w.heap.size w w') => show Calls Tryd.prog 53 #[.int .u32 265] w' (RetV w' (.string (str [48, 44, 51, 44, 108]))) by
    have := c_mask_Show 265 (by omega) w' (hT.below hb) (hP.below hb)
    rw [showM_ex] at this
    exact this)
  have C3 := Lib.hid (fun (w' : World) => show Calls Tryd.prog 58 #[.bool true, .slice (some ⟨w'.heap.size, 0, none⟩) 2 2] (w'.alloc (.cells #[.int .i64 3, .int .i64 0] 3)) (RetV (w'.alloc (.cells #[.int .i64 3, .int .i64 0] 3)) (.int .u32 265)) by
    have := c_mask_MakeA true [3, 0] (some ⟨w'.heap.size, 0, none⟩) 2 (w'.alloc (.cells #[.int .i64 3, .int .i64 0] 3)) ⟨by simp, by omega, by simp, .inr ⟨w'.heap.size, 0, rfl, by simp, fun i hi j u hu => by
      have hj : j < 1 := (List.getElem?_eq_some_iff.1 hu).1
      obtain rfl : j = 0 := by omega
      simp only [List.length_cons, List.length_nil] at hi
      rw [World.cell?_alloc_new]
      have : i = 0 ∨ i = 1 := by omega
      rcases this with rfl | rfl <;> (simp [ic] at hu ⊢; exact hu)⟩⟩
    rw [makeN_ex] at this
    exact this)
  clear hT hP hM HT HP
  go_enter Tryd.func55, Tryd.ntmps55
  go_wp2_with (fail)
  refine C1.out.mono ?_
  rintro e w1 ⟨rfl, hb1⟩
  go_wp2_with (fail)
  refine (C3.out _).mono ?_
  rintro e w2 ⟨rfl, hb2⟩
  have B2 : Below w.heap.size w w2 := Below.trans (b := w1.alloc (.cells #[.int .i64 3, .int .i64 0] 3)) (hb1.alloc hb1.size _) (hb2.mono (by have := hb1.size; simp; omega))
  go_wp2_with (fail)
  refine (C2.out _ B2).mono ?_
  rintro e w3 ⟨rfl, hb3⟩
  go_wp2_with (fail)
  go_ret
  exact RetV.bool rfl (B2.trans (hb3.mono B2.size))
end Go.Proofs.YtkofjkadmknmjaaDoor
namespace Go.Proofs.YtkofjkadmknmjaaDoor
open Go.RowKit

/-- A set with each number of a list, of those from 0 to 7. -/
def eightOf (l : List Int) : Nat := l.foldl (fun s n => if 0 ≤ n ∧ n < 8 then s ||| bitN n else s) 0
theorem eightOf_snoc (l : List Int) (n : Int) : eightOf (l ++ [n]) = if 0 ≤ n ∧ n < 8 then eightOf l ||| bitN n else eightOf l := by unfold eightOf; rw [List.foldl_append]; rfl
theorem and255 (n : Int) : bitN n &&& 255 = if 0 ≤ n ∧ n < 8 then bitN n else 0 := by
  by_cases h : 0 ≤ n ∧ n ≤ 31
  · obtain ⟨k, rfl⟩ : ∃ k : Nat, n = k := ⟨n.toNat, by omega⟩
    have : ∀ k : Fin 32, bitN ((k.val : Nat) : Int) &&& 255 = if 0 ≤ ((k.val : Nat) : Int) ∧ ((k.val : Nat) : Int) < 8 then bitN ((k.val : Nat) : Int) else 0 := by decide +kernel
    exact this ⟨k, by omega⟩
  · rw [bitN_out h]
    split <;> simp
theorem eightOf_mask : ∀ (k : Nat) (l : List Int), l.length = k → maskOf l &&& 255 = eightOf l
  | 0, l, h => by rw [List.eq_nil_of_length_eq_zero h]; rfl
  | k + 1, l, h => by
    rcases snoc_cases l with rfl | ⟨r, t, rfl⟩
    · cases h
    · have ih := eightOf_mask k r (by simpa using h)
      rw [maskOf_snoc, eightOf_snoc, Nat.and_or_distrib_right, ih, and255]
      split
      · rfl
      · simp
theorem eightOf_lt (l : List Int) : eightOf l < 256 := by
  rw [← eightOf_mask _ l rfl]
  have := Nat.and_le_right (n := maskOf l) (m := 255)
  omega
theorem makeN_eight (lab : Bool) (l : List Int) : makeN lab l = if lab then eightOf l + 256 else eightOf l := by
  unfold makeN
  rw [eightOf_mask _ l rfl]
  have h := eightOf_lt l
  cases lab
  · simp
  · have hb : (eightOf l).testBit 8 = false := by rw [bit8_off (by omega)]; exact h
    simp only [if_true]
    exact or_pow 8 (eightOf l) hb
set_option maxHeartbeats 1000000 in
set_option maxRecDepth 4000 in
theorem c_ref05_Make (lab : Bool) (l : List Int) (A : Option Addr) (c : Nat) (w : World) (h : InI w A c l) :
    Calls Tryd.prog 59 #[.bool lab, .slice A l.length c] w (RetV w (.int .u32 (makeN lab l))) := by
  have hL := h.1
  have hC := h.2.1
  have hS := h.2.2.1
  have ME := Lib.hid (makeN_eight lab l)
  have HI := Lib.hid h
  clear h
  go_enter Tryd.func59, Tryd.ntmps59
  go_wp2_with (fail)
  go_loopw [5, 6] (fun s i wr => ∃ (k m : Nat), k ≤ l.length ∧ i = .int .i64 k ∧ s = .int .u32 m ∧ Hid (m = eightOf (l.take k)) ∧ Hid (Below w.heap.size w wr)) (fun _ i _ => l.length - (intOf i).toNat)
  case atStart => exact ⟨0, 0, by omega, rfl, rfl, rfl, Below.refl _ _⟩
  case round =>
    obtain ⟨k, m, hk, rfl, rfl, HM, B1⟩ := hrel
    have hm : m < 256 := by rw [HM.out]; exact eightOf_lt _
    have hz := B1.out.size
    by_cases hlt : k < l.length
    · have d1 : decide (k < l.length) = true := by simpa using hlt
      obtain ⟨b, off, hA, hbb, hrow⟩ := HI.out.at (i := k) hlt
      obtain rfl : A = some ⟨b, off, none⟩ := hA
      have ek := (B1.out.cell (p := ⟨b, off + k, none⟩) hbb).trans (show w.cell? ⟨b, off + k, none⟩ = some (.int .i64 l[k]) by have := hrow k hlt 0 _ rfl; simpa using this)
      have HX := Lib.hid (eightOf_snoc (l.take k) l[k])
      replace HX := Lib.hid (show eightOf (l.take (k + 1)) = if 0 ≤ l[k] ∧ l[k] < 8 then m ||| bitN l[k] else m by rw [List.take_succ_eq_append_getElem hlt, HX.out, HM.out])
      obtain ⟨x, hx⟩ : ∃ x, l[k] = x := ⟨_, rfl⟩
      rw [hx] at ek
      replace HX := Lib.hid (by have := HX.out; rw [hx] at this; exact this)
      have hk0 : (0 : Int) ≤ (k : Int) := by omega
      have hk1 : (k : Int) < (l.length : Int) := by omega
      clear hrow hx
      by_cases h0 : 0 ≤ x
      · have d2 : decide (0 ≤ x) = true := by simpa using h0
        by_cases h8 : x < 8
        · have d3 : decide (x < 8) = true := by simpa using h8
          replace HX := Lib.hid (show eightOf (l.take (k + 1)) = m ||| bitN x by rw [HX.out, if_pos ⟨h0, h8⟩])
          have CW := Lib.hid (fun w' => c_ref03_WithA m x (by omega) w')
          obtain ⟨q, hq⟩ : ∃ q, m ||| bitN x = q := ⟨_, rfl⟩
          rw [hq] at CW
          replace HX := Lib.hid (by have := HX.out; rw [hq] at this; exact this)
          clear h0 h8 hq HM
          go_wp2_with (fail)
          refine (CW.out _).mono ?_
          rintro e w1 ⟨rfl, hb1⟩
          have B2 := Lib.hid (B1.out.trans (hb1.mono hz))
          clear hb1 B1
          go_wp2_with (fail)
          go_roundw
          case rel => exact ⟨k + 1, q, by omega, by go_num, rfl, HX.out.symm, B2.out⟩
          case measure => simp [intOf]; omega
        · have d3 : decide (x < 8) = false := by simpa using h8
          replace HX := Lib.hid (show eightOf (l.take (k + 1)) = m by rw [HX.out, if_neg (fun h => h8 h.2)])
          clear h0 h8 HM
          go_wp2_with (fail)
          go_roundw
          case rel => exact ⟨k + 1, m, by omega, by go_num, rfl, HX.out.symm, B1.out⟩
          case measure => simp [intOf]; omega
      · have d2 : decide (0 ≤ x) = false := by simpa using h0
        replace HX := Lib.hid (show eightOf (l.take (k + 1)) = m by rw [HX.out, if_neg (fun h => h0 h.1)])
        clear h0 HM
        go_wp2_with (fail)
        go_roundw
        case rel => exact ⟨k + 1, m, by omega, by go_num, rfl, HX.out.symm, B1.out⟩
        case measure => simp [intOf]; omega
    · obtain rfl : k = l.length := by omega
      have d1 : decide (l.length < l.length) = false := by simp
      have HE := Lib.hid (show m = eightOf l by rw [HM.out, List.take_length])
      clear hlt HM
      cases lab
      · have V := Lib.hid (show makeN false l = m by rw [ME.out, HE.out]; rfl)
        go_wp2_with (fail)
        go_ret
        exact RetV.of (by rw [V.out]; rfl) B1.out
      · have V := Lib.hid (show makeN true l = m + 256 by rw [ME.out, HE.out]; rfl)
        go_wp2_with (fail)
        go_ret
        exact RetV.of (by rw [V.out]; push_cast; rfl) B1.out
end Go.Proofs.YtkofjkadmknmjaaDoor
