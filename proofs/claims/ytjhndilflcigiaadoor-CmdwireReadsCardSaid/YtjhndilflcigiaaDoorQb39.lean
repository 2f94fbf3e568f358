/-
  The walk of the statement CmdwireReads: it answers true, whatever the bytes. (Printed by gen33l.py.)
-/
import Derived.Test.YtjhndilflcigiaaDoorQb38
import Derived.Test.YtjhndilflcigiaaDoorRows
import Derived.WalkKit
import Derived.WalkSpells
import Derived.WalkLawsBesides
import Derived.Lib.Hide
import Derived.Deep.QuietTactic
import Derived.BigQuiet
import Derived.Maps.AppendAt
import Derived.WalkSmall
import Derived.ProofKit
import Derived.OpenShut
import Derived.JoinedCond
import Derived.Deep.Slices
import Derived.Deep.Fields
import Derived.Carry
import Derived.Deep.AppendSrc
import Derived.Lib.AppendStr
import Derived.Laws.BytesArg
import Derived.Test.YtjhndilflcigiaaDoorProg
import Derived.Shelf.Spec.TrailingZeros
import Derived.RangeFuncNested
import Derived.RangeFuncBound
import Derived.RangeFuncCalls
import Derived.RangeFuncLeaves
import Derived.Shelf.Abstract
import Derived.Shelf.RegionOpen
import Derived.OwnWalkIn
import Derived.TacticsInMore
import Derived.LoopNIn
import Derived.LoopIn
import Derived.Test.YtjhndilflcigiaaDoorTie
import Derived.Lib.LaidTab
import Derived.LaidMore
import Derived.SevenTiedAt
import Derived.Test.YtjhndilflcigiaaDoorCards
import Derived.Laws.Tables
import Derived.Laws.Rows
import Derived.Maps.Own
import Derived.Deep.CutBlock
import Derived.Deep.DeepCutAuto
import Derived.ChangeKeysEq
import Derived.Laws.StructEq
import Derived.Laws.CopyOwn
import Derived.Outline
import Derived.IntWalk
import Derived.Lib.EndianBits
import Derived.Lib.AppendZeros
import Derived.WalkMore
import Derived.StillTail
import Derived.Deep.Quiet
namespace Go.Proofs.YtjhndilflcigiaaDoor
open Go.RowKit

theorem rdCmd_flen (st : Rd) : (rdCmd st).f.length ≤ 31 := by
  unfold rdCmd rdCmdRaw
  repeat' split
  all_goals first
    | (simp only; unfold rdPred; split <;> first | exact pdL_len _ | simp)
    | simp
theorem decC_wf (b : List UInt8) : (decC b).wf := by unfold decC; split <;> first | exact rdCmd_wf _ | exact cmdz_wf
theorem decC_flen (b : List UInt8) : (decC b).f.length ≤ 31 := by unfold decC; split <;> first | exact rdCmd_flen _ | simp
set_option maxHeartbeats 400000 in
theorem c_law33_CmdwireReads_long (n : Nat) (A : Option Addr) (c : Nat) (w : World) (hT : Tab w) (hn : 1500 < n) :
    Calls Tryd.prog 7 #[.slice A n c] w (RetV w (.bool true)) := by
  go_enter Tryd.func7, Tryd.ntmps7
  go_wp2_with (go_at_call 10; refine (c_law33_awake _ hT).mono ?_; rintro e w2 ⟨rfl, hb2⟩)
  go_ret
  exact RetV.bool rfl (by repeat (first | exact Below.refl _ _ | refine Below.drew ?_ | refine Below.alloc ?_ (by first | omega | (simp; done) | (simp; omega)) _ | refine Below.setCell ?_ (by first | omega | (simp; done) | (simp; omega)) _ | refine Below.trans ?_ (Below.mono (by assumption) (by first | omega | (simp; done) | (simp; omega)))))
set_option maxHeartbeats 8000000 in
set_option maxRecDepth 10000 in
theorem c_law33_CmdwireReads (b : List UInt8) (A : Option Addr) (c : Nat) (w : World) (h : InB w A c b) (hb : b.length ≤ 1500) (hT : Tab w) :
    Calls Tryd.prog 7 #[.slice A b.length c] w (RetV w (.bool true)) := by
  have hL := h.1
  have hC := h.2.1
  have hS := h.2.2.1
  have H := Lib.hid h
  have HT := Lib.hid hT
  have KB := Lib.hid (fun (w' : World) (hw : Below w.heap.size w w') => conv_str (P := Tryd.prog) w' Tryd.underlying33 Tryd.underlying5 Tryd.underlying9 (H.out.below hw))
  clear h hT
  go_enter Tryd.func7, Tryd.ntmps7
  go_wp2_with (fail)
  refine (c_octet_New b A c _ H.out).mono ?_
  rintro e w1 ⟨g, rfl, hg, hr1, hb1⟩
  have hgl := hr1.lt rfl
  have kb := KB.out w1 hb1
  have L0 := Lib.hid (show RW w (w1.alloc (.cells #[.string (str b), .int .i64 0] 45)) g w1.heap.size ⟨b, 0⟩ ⟨b, 0⟩ from ⟨hb1.alloc hb1.size _, hr1.below ((Below.refl _ _).alloc (Nat.le_refl _) _), ⟨Blk.new _ _ _, by simp only; omega⟩, hg, hgl⟩)
  obtain ⟨h, hh⟩ : ∃ h, h = w1.heap.size := ⟨_, rfl⟩
  go_wp2_with (fail)
  rw [← hh] at L0 ⊢
  clear hh hr1 hb1 hgl kb hg
  go_loopw [5] (fun i wr => ∃ (k : Nat) (st : Rd), k ≤ 3 ∧ i = .int .i64 k ∧ Hid (RW w wr g h st st))
    (fun i _ => 3 - (intOf i).toNat)
  case atStart => exact ⟨0, ⟨b, 0⟩, by omega, rfl, L0.out⟩
  case round =>
    obtain ⟨k, st, hk3, rfl, L1⟩ := hrel
    clear L0
    by_cases hlt : k < 3
    · have hd : decide ((k : Int) < 3) = true := by simp; omega
      have HLT := Lib.hid hlt
      have E1 := rdCmd_flen st
      have HW := Lib.hid (rdCmd_wf st)
      have LD := Lib.hid (L1.out.step (Below.refl _ _).drew)
      have hhd : h < wr.drew.heap.size := LD.out.hi
      clear hlt hk3 L1
      go_wp2_with (fail)
      refine wp_region_two (N := 76) (by kernel_rfl) (by kernel_rfl) rfl 21 rfl (by kernel_rfl) rfl ⟨rfl, rfl, rfl⟩ ⟨rfl, rfl, rfl⟩ ⟨rfl, rfl, rfl⟩ ⟨rfl, rfl, rfl⟩
        ⟨Tryd.func28, by kernel_rfl, by kernel_rfl⟩ ⟨Tryd.func29, by kernel_rfl, by kernel_rfl⟩ (by first | decide | simp) ⟨by first | decide | simp, by first | decide | simp⟩ (by decide) (by decide) ?_
      refine (c_cmdwire_Read (some g) st _ (HT.out.below LD.out.below) LD.out.rp).mono ?_
      rintro e w5 ⟨A2, c2, rfl, own2, hrp2, hk2⟩
      have L2 := Lib.hid (LD.out.readP hrp2 hk2)
      have O2 := Lib.hid own2
      clear own2 hrp2 hk2
      refine ⟨_, rfl, ?_⟩
      refine (c_ref33_Read h st _ L2.out.rr).mono ?_
      rintro e w6 ⟨A3, c3, rfl, own3, hrr3, hk3⟩
      have L3 := Lib.hid (L2.out.readR hrr3 hk3)
      have I2 := Lib.hid (In.ownN Node.cells_len (own_kept O2.out hk3 (fun x e => by injection e with e; omega)) (by omega))
      have I3 := Lib.hid (In.ownN Node.cells_len own3 (by omega))
      have hh3 : h < w6.heap.size := L3.out.hi
      clear own3 hrr3 hk3 L2 O2 LD
      refine ⟨_, rfl, [Sp.eq (.bool true), Sp.eq (.bool false), Sp.eq (.bool false), Sp.eq (ptr (some g)), Sp.eq (.int .i64 (rdCmd' st).e), Sp.eq (.pointer (some ⟨h, 0, none⟩)), Sp.eq (.pointer (some ⟨h, 0, none⟩)), Sp.eq (.pointer (some ⟨h, 1, none⟩)), Sp.eq (.int .i64 (rdCmd' st).e), Sp.eq (.bool false), Sp.eq (.bool false), Sp.eq (.bool false), Sp.eq (ptr (some g)), Sp.eq (.int .i64 (rdCmd' st).s.length), Sp.eq (.pointer (some ⟨h, 0, none⟩)), Sp.eq (.pointer (some ⟨h, 0, none⟩)), Sp.eq (.pointer (some ⟨h, 0, none⟩)), Sp.eq (.string (str (rdCmd' st).s)), Sp.eq (.int .i64 (rdCmd' st).s.length), Sp.eq (.bool false), Sp.eq (.bool false)], rfl, ?_, ?_⟩
      · show RelGoals _ _ (Sp.eq (ptr (some g)) :: Sp.eq (.agg ((rdCmd st).arr A2 c2)) :: Sp.eq (.pointer (some ⟨h, 0, none⟩)) :: Sp.eq (.agg ((rdCmd st).arr A3 c3)) :: _) _ _ _ _
        refine relgoals_genN fun fr hfr => ?_
        have HFR := Lib.hid hfr
        clear hfr
        refine ⟨?_, ?_, ?_, ?_, ?_, ?_, ?_, ?_, ?_, ?_, ?_, ?_, ?_, ?_, ?_, ?_, ?_, ?_, ?_, ?_, ?_, trivial⟩
        all_goals (intro u w7 hb7 hd; simp [Deps, Region.binds, Sp.eq_holds] at hd; simp only [putDeps, dstOf, Region.binds])
        case refine_1 =>
          (try (obtain ⟨d0, hd⟩ := hd; (try (obtain ⟨d1, hd⟩ := hd; (try (obtain ⟨d2, hd⟩ := hd))))))
          rw [HFR.out]
          go_wp2_with (go_at_call 14; refine (c_ref33_Same (rdCmd st) (rdCmd st) A2 A3 c2 c3 _ HW.out HW.out (I2.out.below hb7) (I3.out.below hb7)).mono ?_; rintro e4 w5 ⟨rfl, hb5⟩; rw [decide_eq_true (rfl : rdCmd st = rdCmd st)])
          exact RelEnd.mk rfl hb5 rfl
        case refine_2 =>
          (try (obtain ⟨d0, hd⟩ := hd; (try (obtain ⟨d1, hd⟩ := hd; (try (obtain ⟨d2, hd⟩ := hd))))))
          rw [HFR.out]
          go_wp2_with (fail)
          exact RelEnd.mk rfl (Below.refl _ _) rfl
        case refine_3 =>
          (try (obtain ⟨d0, hd⟩ := hd; (try (obtain ⟨d1, hd⟩ := hd; (try (obtain ⟨d2, hd⟩ := hd))))))
          rw [HFR.out]
          go_wp2_with (fail)
          exact RelEnd.mk rfl (Below.refl _ _) rfl
        case refine_4 =>
          (try (obtain ⟨d0, hd⟩ := hd; (try (obtain ⟨d1, hd⟩ := hd; (try (obtain ⟨d2, hd⟩ := hd))))))
          rw [HFR.out]
          go_wp2_with (fail)
          exact RelEnd.mk rfl (Below.refl _ _) rfl
        case refine_5 =>
          (try (obtain ⟨d0, hd⟩ := hd; (try (obtain ⟨d1, hd⟩ := hd; (try (obtain ⟨d2, hd⟩ := hd))))))
          rw [HFR.out]
          go_wp2_with (go_at_call 19; refine (c_octet_Err' (some g) _ _ (L3.out.rp.below hb7)).mono ?_; rintro e4 w5 ⟨rfl, hb5⟩)
          exact RelEnd.mk rfl hb5 rfl
        case refine_6 =>
          (try (obtain ⟨d0, hd⟩ := hd; (try (obtain ⟨d1, hd⟩ := hd; (try (obtain ⟨d2, hd⟩ := hd))))))
          rw [HFR.out]
          go_wp2_with (fail)
          exact RelEnd.mk rfl (Below.refl _ _) rfl
        case refine_7 =>
          (try (obtain ⟨d0, hd⟩ := hd; (try (obtain ⟨d1, hd⟩ := hd; (try (obtain ⟨d2, hd⟩ := hd))))))
          rw [HFR.out]
          go_wp2_with (fail)
          exact RelEnd.mk rfl (Below.refl _ _) rfl
        case refine_8 =>
          (try (obtain ⟨d0, hd⟩ := hd; (try (obtain ⟨d1, hd⟩ := hd; (try (obtain ⟨d2, hd⟩ := hd))))))
          rw [HFR.out]
          go_wp2_with (fail)
          exact RelEnd.mk rfl (Below.refl _ _) rfl
        case refine_9 =>
          (try (obtain ⟨d0, hd⟩ := hd; (try (obtain ⟨d1, hd⟩ := hd; (try (obtain ⟨d2, hd⟩ := hd))))))
          rw [HFR.out]
          have c1 := (L3.out.rr.below hb7).eN
          go_wp2_with (fail)
          exact RelEnd.mk rfl (Below.refl _ _) rfl
        case refine_10 =>
          (try (obtain ⟨d0, hd⟩ := hd; (try (obtain ⟨d1, hd⟩ := hd; (try (obtain ⟨d2, hd⟩ := hd))))))
          rw [HFR.out]
          go_wp2_with (fail)
          exact RelEnd.mk rfl (Below.refl _ _) rfl
        case refine_11 =>
          (try (obtain ⟨d0, hd⟩ := hd; (try (obtain ⟨d1, hd⟩ := hd; (try (obtain ⟨d2, hd⟩ := hd))))))
          rw [HFR.out]
          go_wp2_with (fail)
          exact RelEnd.mk rfl (Below.refl _ _) rfl
        case refine_12 =>
          (try (obtain ⟨d0, hd⟩ := hd; (try (obtain ⟨d1, hd⟩ := hd; (try (obtain ⟨d2, hd⟩ := hd))))))
          rw [HFR.out]
          go_wp2_with (fail)
          exact RelEnd.mk rfl (Below.refl _ _) rfl
        case refine_13 =>
          (try (obtain ⟨d0, hd⟩ := hd; (try (obtain ⟨d1, hd⟩ := hd; (try (obtain ⟨d2, hd⟩ := hd))))))
          rw [HFR.out]
          go_wp2_with (fail)
          exact RelEnd.mk rfl (Below.refl _ _) rfl
        case refine_14 =>
          (try (obtain ⟨d0, hd⟩ := hd; (try (obtain ⟨d1, hd⟩ := hd; (try (obtain ⟨d2, hd⟩ := hd))))))
          rw [HFR.out]
          go_wp2_with (go_at_call 20; refine (c_octet_Left' (some g) _ _ (L3.out.rp.below hb7)).mono ?_; rintro e4 w5 ⟨rfl, hb5⟩)
          exact RelEnd.mk rfl hb5 rfl
        case refine_15 =>
          (try (obtain ⟨d0, hd⟩ := hd; (try (obtain ⟨d1, hd⟩ := hd; (try (obtain ⟨d2, hd⟩ := hd))))))
          rw [HFR.out]
          go_wp2_with (fail)
          exact RelEnd.mk rfl (Below.refl _ _) rfl
        case refine_16 =>
          (try (obtain ⟨d0, hd⟩ := hd; (try (obtain ⟨d1, hd⟩ := hd; (try (obtain ⟨d2, hd⟩ := hd))))))
          rw [HFR.out]
          go_wp2_with (fail)
          exact RelEnd.mk rfl (Below.refl _ _) rfl
        case refine_17 =>
          (try (obtain ⟨d0, hd⟩ := hd; (try (obtain ⟨d1, hd⟩ := hd; (try (obtain ⟨d2, hd⟩ := hd))))))
          rw [HFR.out]
          go_wp2_with (fail)
          exact RelEnd.mk rfl (Below.refl _ _) rfl
        case refine_18 =>
          (try (obtain ⟨d0, hd⟩ := hd; (try (obtain ⟨d1, hd⟩ := hd; (try (obtain ⟨d2, hd⟩ := hd))))))
          rw [HFR.out]
          have c0 := (L3.out.rr.below hb7).sN
          go_wp2_with (fail)
          exact RelEnd.mk rfl (Below.refl _ _) rfl
        case refine_19 =>
          (try (obtain ⟨d0, hd⟩ := hd; (try (obtain ⟨d1, hd⟩ := hd; (try (obtain ⟨d2, hd⟩ := hd))))))
          rw [HFR.out]
          go_wp2_with (fail)
          exact RelEnd.mk rfl (Below.refl _ _) rfl
        case refine_20 =>
          (try (obtain ⟨d0, hd⟩ := hd; (try (obtain ⟨d1, hd⟩ := hd; (try (obtain ⟨d2, hd⟩ := hd))))))
          rw [HFR.out]
          go_wp2_with (fail)
          exact RelEnd.mk rfl (Below.refl _ _) rfl
        case refine_21 =>
          (try (obtain ⟨d0, hd⟩ := hd; (try (obtain ⟨d1, hd⟩ := hd; (try (obtain ⟨d2, hd⟩ := hd))))))
          rw [HFR.out]
          go_wp2_with (fail)
          exact RelEnd.mk rfl (Below.refl _ _) rfl
      · intro u w7 hb7 hold
        simp only [RelHold, Sp.eq_holds, Nat.reduceAdd] at hold
        obtain ⟨-, -, -, -, -, -, -, -, -, -, -, -, -, -, -, -, -, -, -, -, -, -, -, -, dL, -⟩ := hold
        simp only [putAll, Act.put, Nat.reduceAdd, List.setIfInBounds_toArray, List.set_cons_zero, List.set_cons_succ, dL]
        have L7 := Lib.hid (L3.out.step hb7)
        clear hb7 L3 I2 I3
        have h4 : k < 3 := HLT.out
        go_wp2_with (fail)
        go_roundw
        case rel => exact ⟨k + 1, rdCmd' st, by omega, by go_num, L7.out⟩
        case measure => simp [intOf]; omega
    · have hd : decide ((k : Int) < 3) = false := by simp; omega
      have B1 := Lib.hid L1.out.below
      have hz1 := B1.out.size
      obtain ⟨D, hD⟩ : ∃ d, d = decC b := ⟨_, rfl⟩
      obtain ⟨X, hX⟩ : ∃ d, d = decE b := ⟨_, rfl⟩
      have HD := Lib.hid hD
      have HX := Lib.hid hX
      have hw := Lib.hid (show D.wf by rw [hD]; exact decC_wf b)
      have hfl : D.f.length ≤ 31 := by rw [hD]; exact decC_flen b
      clear hlt hk3 L1 hD hX
      go_wp2_with (fail)
      refine (c_cmdwire_Decode b A c _ (HT.out.below B1.out) (H.out.below B1.out)).mono ?_
      rintro e w2 ⟨A2, c2, rfl, own2, hb2⟩
      rw [← HD.out, ← HX.out]
      rw [← HD.out] at own2
      have I2 := Lib.hid (In.ownN Node.cells_len own2 (by omega))
      replace B1 := Lib.hid (B1.out.trans (hb2.mono hz1))
      clear hb2 own2 hz1
      have hz2 := B1.out.size
      go_wp2_with (with_reducible refine stop_store 32 (.tmp 6) (.tmp 52) rfl rfl ?_)
      refine Stop.mk (wpList_storeB rfl _ _ _ rfl w2.heap.size _ rfl rfl _ (Blk.new _ _ _) strCm (Cmd.arr_size hw.out) (by rw [Cmd.arr_size hw.out]; rfl) (Cmd.arr_ones hw.out) ?_)
      intro w3 hb3 hk3
      have hB3 := fresh_below hk3
      replace I2 := Lib.hid (I2.out.below hB3)
      replace B1 := Lib.hid (B1.out.trans (hB3.mono hz2))
      obtain ⟨q, hq⟩ : ∃ q, q = w2.heap.size := ⟨_, rfl⟩
      rw [← hq] at hb3 ⊢
      have Bq := Lib.hid hb3
      clear hb3 hk3 hB3 hq hz2
      have hz3 := B1.out.size
      have kb := KB.out w3 B1.out
      go_wp2_with (fail)
      refine (c_ref33_Decode b (by omega) _).mono ?_
      rintro e w4 ⟨A4, c4, rfl, own4, hb4⟩
      rw [← HD.out, ← HX.out]
      rw [← HD.out] at own4
      have I4 := Lib.hid (In.ownN Node.cells_len own4 (by omega))
      replace I2 := Lib.hid (I2.out.below hb4)
      replace Bq := Lib.hid (Bq.out.below hb4 Bq.out.lt)
      replace B1 := Lib.hid (B1.out.trans (hb4.mono hz3))
      clear hb4 own4 hz3 kb
      have hz4 := B1.out.size
      go_wp2_with (with_reducible refine stop_store 32 (.tmp 8) (.tmp 58) rfl rfl ?_)
      refine Stop.mk (wpList_storeB rfl _ _ _ rfl w4.heap.size _ rfl rfl _ (Blk.new _ _ _) strCm (Cmd.arr_size hw.out) (by rw [Cmd.arr_size hw.out]; rfl) (Cmd.arr_ones hw.out) ?_)
      intro w5 hb5 hk5
      have hB5 := fresh_below hk5
      replace I2 := Lib.hid (I2.out.below hB5)
      replace I4 := Lib.hid (I4.out.below hB5)
      replace Bq := Lib.hid (Bq.out.below hB5 Bq.out.lt)
      replace B1 := Lib.hid (B1.out.trans (hB5.mono hz4))
      obtain ⟨r, hr⟩ : ∃ q, q = w4.heap.size := ⟨_, rfl⟩
      rw [← hr] at hb5 ⊢
      have Br := Lib.hid hb5
      clear hb5 hk5 hB5 hr hz4
      have hz5 := B1.out.size
      go_wp2_with (with_reducible refine stop_load 32 (.tmp 6) rfl rfl ?_)
      refine Stop.mk (wpList_loadB rfl _ _ rfl q rfl _ Bq.out strCm (Cmd.arr_size hw.out) ?_)
      go_wp2_with (with_reducible refine stop_load 32 (.tmp 8) rfl rfl ?_)
      refine Stop.mk (wpList_loadB rfl _ _ rfl r rfl _ Br.out strCm (Cmd.arr_size hw.out) ?_)
      go_wp2_with (fail)
      refine (c_ref33_Same D D A2 A4 c2 c4 _ hw.out hw.out I2.out I4.out).mono ?_
      rintro e w6 ⟨rfl, hb6⟩
      rw [decide_eq_true (rfl : D = D)]
      replace B1 := Lib.hid (B1.out.trans (hb6.mono hz5))
      clear hb6 hz5 Bq Br I2 I4
      have hz6 := B1.out.size
      go_wp2_with (fail)
      refine (c_cmdwire_Read none ⟨[], 1⟩ _ (HT.out.below B1.out) (RdP.nilmk _)).mono ?_
      rintro e w7 ⟨A7, c7, rfl, own7, -, hk7⟩
      have hb7 : Below _ _ w7 := hk7.below (Nat.le_refl _) (fun _ h => by cases h)
      rw [(rdCmd_err (st := ⟨[], 1⟩) (by decide)).1] at own7 ⊢
      have hc7 : c7 ≤ 9223372036854775807 := by obtain ⟨_, _, hv, _, hc⟩ := own_form own7; injection hv with _ _ hcc; omega
      replace B1 := Lib.hid (B1.out.trans (hb7.mono hz6))
      clear own7 hk7 hb7 hz6
      have hz7 := B1.out.size
      have HN := Lib.hid (show Calls Tryd.prog 14 #[.agg (cmdz.arr A7 c7), .agg #[.int .i64 0, .int .i64 0, .int .i64 0, .int .i64 0, .int .u32 0, .int .u32 0, .int .i64 0, .int .i64 0, .string (str []), .int .i64 0, .int .i64 0, .string (str []), .int .i64 0, .int .i64 0, .string (str []), .int .i64 0, .int .i64 0, .string (str []), .int .i64 0, .int .i64 0, .string (str []), .int .i64 0, .int .i64 0, .string (str []), .int .i64 0, .int .i64 0, .string (str []), .int .i64 0, .int .i64 0, .string (str []), .int .i64 0, .int .i64 0, .int .i64 0, .int .i64 0, .int .i64 0, .int .u32 0, .int .u32 0, .int .i64 0, .int .i64 0, .string (str []), .int .i64 0, .int .i64 0, .string (str []), .int .i64 0, .int .i64 0, .string (str []), .int .i64 0, .int .i64 0, .string (str []), .int .i64 0, .int .i64 0, .string (str []), .int .i64 0, .int .i64 0, .string (str []), .int .i64 0, .int .i64 0, .string (str []), .int .i64 0, .int .i64 0, .string (str []), .slice none 0 0, .int .u32 0]] w7 (RetV w7 (.bool true)) by
        have := c_ref33_Same cmdz cmdz A7 none c7 0 w7 cmdz_wf cmdz_wf (In.nil hc7) (In.nil (by omega))
        rw [decide_eq_true (rfl : cmdz = cmdz)] at this
        rw [show cmdz.arr none 0 = _ from cmdK_arr 0] at this
        exact this)
      go_wp2_with (fail)
      refine HN.out.mono ?_
      rintro e w8 ⟨rfl, hb8⟩
      replace B1 := Lib.hid (B1.out.trans (hb8.mono hz7))
      clear hb8 hz7 HN
      have hz8 := B1.out.size
      go_wp2_with (fail)
      refine (c_law33_awake _ (HT.out.below B1.out)).mono ?_
      rintro e w9 ⟨rfl, hb9⟩
      go_wp2_with (fail)
      go_ret
      exact RetV.bool rfl (B1.out.trans (hb9.mono hz8))
end Go.Proofs.YtjhndilflcigiaaDoor
