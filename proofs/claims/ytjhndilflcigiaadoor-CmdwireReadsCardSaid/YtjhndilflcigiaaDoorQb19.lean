/-
  The walk of chapter 8's Patch: a patch taken off bytes. (Printed by gen08j.py.)
-/
import Derived.Test.YtjhndilflcigiaaDoorQb18
import Derived.Test.YtjhndilflcigiaaDoorRows
import Derived.WalkKit
import Derived.WalkSpells
import Derived.WalkLawsBesides
import Derived.Lib.Hide
import Derived.Deep.QuietTactic
import Derived.BigQuiet
import Derived.Maps.AppendAt
import Derived.WalkSmall
import Derived.ProofKit
import Derived.OpenShut
import Derived.JoinedCond
import Derived.Deep.Slices
import Derived.Deep.Fields
import Derived.Carry
import Derived.Deep.AppendSrc
import Derived.Lib.AppendStr
import Derived.Laws.BytesArg
import Derived.Test.YtjhndilflcigiaaDoorProg
import Derived.Shelf.Spec.TrailingZeros
import Derived.RangeFuncNested
import Derived.RangeFuncBound
import Derived.RangeFuncCalls
import Derived.RangeFuncLeaves
import Derived.Shelf.Abstract
import Derived.Shelf.RegionOpen
import Derived.OwnWalkIn
import Derived.TacticsInMore
import Derived.LoopNIn
import Derived.LoopIn
import Derived.Test.YtjhndilflcigiaaDoorTie
import Derived.Lib.LaidTab
import Derived.LaidMore
import Derived.SevenTiedAt
import Derived.Test.YtjhndilflcigiaaDoorCards
import Derived.Laws.Tables
import Derived.Laws.Rows
import Derived.Maps.Own
import Derived.Deep.CutBlock
import Derived.Deep.DeepCutAuto
import Derived.ChangeKeysEq
import Derived.Laws.StructEq
import Derived.Laws.CopyOwn
import Derived.Outline
import Derived.IntWalk
import Derived.Lib.EndianBits
import Derived.Lib.AppendZeros
import Derived.WalkMore
import Derived.StillTail
import Derived.Deep.Quiet
namespace Go.Proofs.YtjhndilflcigiaaDoor
open Go.RowKit

set_option maxHeartbeats 8000000 in
set_option maxRecDepth 4000 in
theorem c_cardwire_Patch (p : Option Nat) (st : Rd) (w : World) (hT : Tab w) (hr : RdP w p st) : Calls Tryd.prog 135 #[ptr p] w (RetP p (rdPatch' st) w (.agg (rdPatch st).arr)) := by
  have hpl := fun g (hg : p = some g) => hr.lt hg
  have ht := hr.tab hT
  have hdef := rdPatch'_def st
  have hM := (ptM_bd st).1
  have hM1 := (ptM_bd st).2
  have hb511 := rdN_bd st 511
  have hfl := ptF_len st
  have HFL := Lib.hid hfl
  obtain ⟨S, hS⟩ : ∃ S, S = rdPatch' st := ⟨_, rfl⟩
  obtain ⟨M, hMm⟩ : ∃ M, M = ptM st := ⟨_, rfl⟩
  obtain ⟨L, hL⟩ : ∃ L, L = ptL st := ⟨_, rfl⟩
  rw [← hMm] at hM hM1
  have hM2 : M < 4294967296 := by omega
  have HM := Lib.hid hM
  have HMM := Lib.hid hMm
  have HL := Lib.hid hL
  have HS := Lib.hid hS
  rw [← hS, ← hMm] at hdef
  have HD0 := Lib.hid hdef
  have HF := Lib.hid (show ptF st = rdFv true (bitsTo M 8) (ptB st) f8z by rw [hMm]; rfl)
  clear hL hMm hM hfl hS hdef
  cases he : (S.e != 0)
  all_goals
    cases h8 : M.testBit 8
  · rw [← HS.out]
    go_enter Tryd.func135, Tryd.ntmps135
    go_wp2_with (fail)
    refine (c_cardwire_above p st 511 _ (hr.below ((Below.refl _ _).alloc (Nat.le_refl _) _))).mono ?_
    rintro e w1 ⟨rfl, hr1, hk1⟩
    rw [← HM.out]
    have hz1 := hk1.size
    simp only [World.size_alloc] at hz1
    have kw1 : Kept p w.heap.size w w1 := (by repeat (first | exact Kept.refl _ _ _ | refine Kept.drew ?_ | refine Kept.alloc ?_ (by first | omega | (simp; done) | (simp; omega)) _ | refine Kept.setCell ?_ (by first | (right; rfl) | (left; first | omega | (simp; done) | (simp; omega))) _ | refine Kept.then_kept ?_ (by assumption) (by first | omega | (simp; done) | (simp; omega)) | refine Kept.then_below ?_ (by assumption) (by first | omega | (simp; done) | (simp; omega)) | refine Kept.low ?_ (by assumption)))
    have R1 := Lib.hid ((Blk.new w _ _).kept hk1 (by simp) (ne_of_lt hpl (Nat.le_refl _)))
    go_wp2_with (with_reducible refine stop_store 27 (.tmp 3) (.tmp 7) rfl rfl ?_)
    refine Stop.mk (wpList_storeB rfl _ _ _ rfl w1.heap.size _ rfl rfl _ (Blk.new _ _ _) strP rfl rfl (by simp [Value.oneCell']) ?_)
    intro w2 hb2 hk2
    have B2 := Lib.hid (show Blk w2 w1.heap.size (Patch.arr ⟨M, 0, f8z⟩) by unfold Patch.arr; exact hb2)
    clear hb2
    have R2 := Lib.hid ((R1.out.alloc _).kept hk2 (by simp; omega) (by simp; omega))
    have hz2 := hk2.size
    simp only [World.size_alloc] at hz2
    have kw2 : Kept p w.heap.size w w2 := (kw1.alloc (by omega) _).trans (hk2.one (by simp; omega) (.inl (by omega)))
    have hr2 : RdP w2 p (ptA st) := (hr1.below ((Below.refl _ _).alloc (Nat.le_refl _) _)).own (b := w1.heap.size) hk2 (fun g hg => by have := hpl g hg; omega)
    have q20 := B2.out.cell (Patch.arr_head _).1
    go_wp2_with (fail)
    refine (c_mask_Labels M hM2 _).mono ?_
    rintro e w3 ⟨rfl, hb3⟩
    have hz3 := hb3.size
    have B3 := Lib.hid (B2.out.below hb3 B2.out.lt)
    have R3 := Lib.hid (R2.out.below hb3 R2.out.lt)
    have hr3 : RdP w3 p (ptA st) := hr2.below hb3
    have kw3 : Kept p w.heap.size w w3 := kw2.then_below hb3 (by omega)
    have q30 := B3.out.cell (Patch.arr_head _).1
    clear q20
    obtain ⟨t1, t2⟩ := ptB_no (st := st) (by rw [← HMM.out]; exact h8)
    have T2 := Lib.hid (HL.out.trans t2)
    have HD := Lib.hid (show S = rdFs' true (bitsTo M 8) (ptA st) by rw [← t1]; exact HD0.out)
    have HF1 := Lib.hid (show ptF st = rdFv true (bitsTo M 8) (ptA st) f8z by rw [← t1]; exact HF.out)
    have C6 := Lib.hid (show Blk w3 w1.heap.size (Patch.arr ⟨M, L, f8z⟩) by rw [T2.out]; exact B3.out)
    clear t1 t2
    go_wp2_with (fail)
    refine (c_cardwire_fields p (ptA st) M true _ hM2 (hT.kept kw3 ht) hr3).mono ?_
    rintro e w8 ⟨rfl, hr8, hk8⟩
    have hz8 := hk8.size
    have kw8 : Kept p w.heap.size w w8 := kw3.trans (hk8.mono (by omega))
    have R8 := Lib.hid (R3.out.kept hk8 (by omega) (ne_of_lt hpl (by omega)))
    have B8 := Lib.hid (C6.out.kept hk8 (by omega) (ne_of_lt hpl (by omega)))
    rw [← HD.out] at hr8
    rw [← HF1.out]
    go_wp2_with (with_reducible refine stop_store 25 (.tmp 18) (.tmp 17) rfl rfl ?_)
    refine Stop.mk (wpList_storeAt rfl _ _ _ rfl w1.heap.size 2 (farr (ptF st)) rfl rfl _ B8.out strF (by rw [farr_size, HFL.out]) (by rw [Patch.arr_size, farr_size, HFL.out]; simp) (farr_one _) ?_)
    intro w9 hb9 hk9
    rw [Patch.putF (by rw [HFL.out]; rfl)] at hb9
    have B9 := Lib.hid hb9
    clear hb9
    have hz9 := hk9.size
    have kw9 : Kept p w.heap.size w w9 := kw8.trans (hk9.one (by omega) (.inl (by omega)))
    have R9 := Lib.hid (R8.out.kept hk9 (by omega) (by simp; omega))
    have hr9 : RdP w9 p S := hr8.own (b := w1.heap.size) hk9 (fun g hg => by have := hpl g hg; omega)
    go_wp2_with (fail)
    refine (c_octet_Err p S _ hr9).mono ?_
    rintro e w10 ⟨rfl, hr10, hk10⟩
    have hz10 := hk10.size
    have kw10 : Kept p w.heap.size w w10 := kw9.trans (hk10.mono (by omega))
    have B10 := Lib.hid (B9.out.kept hk10 (by omega) (ne_of_lt hpl (by omega)))
    have R10 := Lib.hid (R9.out.kept hk10 (by omega) (ne_of_lt hpl (by omega)))
    go_wp2_with (with_reducible refine stop_load 27 (.tmp 3) rfl rfl ?_)
    refine Stop.mk (wpList_loadB rfl _ _ rfl w1.heap.size rfl _ B10.out strP (by rw [Patch.arr_size, HFL.out]) ?_)
    go_wp2_with (with_reducible refine stop_store 27 (.tmp 2) (.tmp 23) rfl rfl ?_)
    refine Stop.mk (wpList_storeB rfl _ _ _ rfl w.heap.size _ rfl rfl _ R10.out strP (by rw [Patch.arr_size, HFL.out]) (by rw [Patch.arr_size, HFL.out]; rfl) (Patch.arr_ones _) ?_)
    intro w11 hb11 hk11
    have hE : S.e = 0 := by simpa using he
    have hv : rdPatch st = ptPatch st := rdPatch_ok (by rw [← HS.out]; exact hE)
    have B11 := Lib.hid hb11
    clear hb11
    go_wp2_with (fail)
    exact bodyPost_ret (results_B rfl rfl B11.out strP (by rw [Patch.arr_size, HFL.out])) rfl ⟨by rw [hv, HL.out, HMM.out]; rfl, hr10.own (b := w.heap.size) hk11 hpl, kw10.trans (hk11.one (by omega) (.inl (Nat.le_refl _)))⟩
  · rw [← HS.out]
    go_enter Tryd.func135, Tryd.ntmps135
    go_wp2_with (fail)
    refine (c_cardwire_above p st 511 _ (hr.below ((Below.refl _ _).alloc (Nat.le_refl _) _))).mono ?_
    rintro e w1 ⟨rfl, hr1, hk1⟩
    rw [← HM.out]
    have hz1 := hk1.size
    simp only [World.size_alloc] at hz1
    have kw1 : Kept p w.heap.size w w1 := (by repeat (first | exact Kept.refl _ _ _ | refine Kept.drew ?_ | refine Kept.alloc ?_ (by first | omega | (simp; done) | (simp; omega)) _ | refine Kept.setCell ?_ (by first | (right; rfl) | (left; first | omega | (simp; done) | (simp; omega))) _ | refine Kept.then_kept ?_ (by assumption) (by first | omega | (simp; done) | (simp; omega)) | refine Kept.then_below ?_ (by assumption) (by first | omega | (simp; done) | (simp; omega)) | refine Kept.low ?_ (by assumption)))
    have R1 := Lib.hid ((Blk.new w _ _).kept hk1 (by simp) (ne_of_lt hpl (Nat.le_refl _)))
    go_wp2_with (with_reducible refine stop_store 27 (.tmp 3) (.tmp 7) rfl rfl ?_)
    refine Stop.mk (wpList_storeB rfl _ _ _ rfl w1.heap.size _ rfl rfl _ (Blk.new _ _ _) strP rfl rfl (by simp [Value.oneCell']) ?_)
    intro w2 hb2 hk2
    have B2 := Lib.hid (show Blk w2 w1.heap.size (Patch.arr ⟨M, 0, f8z⟩) by unfold Patch.arr; exact hb2)
    clear hb2
    have R2 := Lib.hid ((R1.out.alloc _).kept hk2 (by simp; omega) (by simp; omega))
    have hz2 := hk2.size
    simp only [World.size_alloc] at hz2
    have kw2 : Kept p w.heap.size w w2 := (kw1.alloc (by omega) _).trans (hk2.one (by simp; omega) (.inl (by omega)))
    have hr2 : RdP w2 p (ptA st) := (hr1.below ((Below.refl _ _).alloc (Nat.le_refl _) _)).own (b := w1.heap.size) hk2 (fun g hg => by have := hpl g hg; omega)
    have q20 := B2.out.cell (Patch.arr_head _).1
    go_wp2_with (fail)
    refine (c_mask_Labels M hM2 _).mono ?_
    rintro e w3 ⟨rfl, hb3⟩
    have hz3 := hb3.size
    have B3 := Lib.hid (B2.out.below hb3 B2.out.lt)
    have R3 := Lib.hid (R2.out.below hb3 R2.out.lt)
    have hr3 : RdP w3 p (ptA st) := hr2.below hb3
    have kw3 : Kept p w.heap.size w w3 := kw2.then_below hb3 (by omega)
    have q30 := B3.out.cell (Patch.arr_head _).1
    clear q20
    obtain ⟨t1, t2⟩ := ptB_yes (st := st) (by rw [← HMM.out]; exact h8)
    have T2 := Lib.hid (HL.out.trans t2)
    have HD := Lib.hid (show S = rdFs' true (bitsTo M 8) (rdN' (ptA st) 65535) by rw [← t1]; exact HD0.out)
    have HF1 := Lib.hid (show ptF st = rdFv true (bitsTo M 8) (rdN' (ptA st) 65535) f8z by rw [← t1]; exact HF.out)
    clear t1 t2
    go_wp2_with (fail)
    refine (c_cardwire_labels p (ptA st) _ hr3).mono ?_
    rintro e w4 ⟨rfl, hr4, hk4⟩
    rw [← T2.out]
    have hz4 := hk4.size
    have kw4 : Kept p w.heap.size w w4 := kw3.trans (hk4.mono (by omega))
    have B4 := B3.out.kept hk4 (by omega) (ne_of_lt hpl (by omega))
    have R4 := Lib.hid (R3.out.kept hk4 (by omega) (ne_of_lt hpl (by omega)))
    have q41 := B4.cell (Patch.arr_head _).2
    have f41 := B4.frozen 1
    have C5 := Lib.hid (show Blk (w4.setCell ⟨w1.heap.size, 1, none⟩ (.int .u32 L)) w1.heap.size (Patch.arr ⟨M, L, f8z⟩) by have := B4.store 1 (.int .u32 L); rw [Patch.put1] at this; exact this)
    have q50 := C5.out.cell (Patch.arr_head _).1
    clear B4 q30
    go_wp2_with (fail)
    have R5 := Lib.hid (R4.out.far (q := ⟨w1.heap.size, 1, none⟩) (by simp; omega) (.int .u32 L))
    have hr5 : RdP (w4.setCell ⟨w1.heap.size, 1, none⟩ (.int .u32 L)) p (rdN' (ptA st) 65535) := RdP.own (b := w1.heap.size) hr4 (by repeat (first | exact Kept.refl _ _ _ | refine Kept.drew ?_ | refine Kept.alloc ?_ (by first | omega | (simp; done) | (simp; omega)) _ | refine Kept.setCell ?_ (by first | (right; rfl) | (left; first | omega | (simp; done) | (simp; omega))) _ | refine Kept.then_kept ?_ (by assumption) (by first | omega | (simp; done) | (simp; omega)) | refine Kept.then_below ?_ (by assumption) (by first | omega | (simp; done) | (simp; omega)) | refine Kept.low ?_ (by assumption))) (fun g hg => by have := hpl g hg; omega)
    have kw5 : Kept p w.heap.size w (w4.setCell ⟨w1.heap.size, 1, none⟩ (.int .u32 L)) := kw4.setCell (.inl (by simp; omega)) _
    obtain ⟨w5, hw5⟩ : ∃ w5, w5 = w4.setCell ⟨w1.heap.size, 1, none⟩ (.int .u32 L) := ⟨_, rfl⟩
    have hz5 : w5.heap.size = w4.heap.size := by rw [hw5]; simp [World.setCell]
    rw [← hw5] at C5 R5 hr5 kw5 q50 ⊢
    clear hw5 q41 f41
    have C6 := C5
    refine (c_cardwire_fields p (rdN' (ptA st) 65535) M true _ hM2 (hT.kept kw5 ht) hr5).mono ?_
    rintro e w8 ⟨rfl, hr8, hk8⟩
    have hz8 := hk8.size
    have kw8 : Kept p w.heap.size w w8 := kw5.trans (hk8.mono (by omega))
    have R8 := Lib.hid (R5.out.kept hk8 (by omega) (ne_of_lt hpl (by omega)))
    have B8 := Lib.hid (C6.out.kept hk8 (by omega) (ne_of_lt hpl (by omega)))
    rw [← HD.out] at hr8
    rw [← HF1.out]
    go_wp2_with (with_reducible refine stop_store 25 (.tmp 18) (.tmp 17) rfl rfl ?_)
    refine Stop.mk (wpList_storeAt rfl _ _ _ rfl w1.heap.size 2 (farr (ptF st)) rfl rfl _ B8.out strF (by rw [farr_size, HFL.out]) (by rw [Patch.arr_size, farr_size, HFL.out]; simp) (farr_one _) ?_)
    intro w9 hb9 hk9
    rw [Patch.putF (by rw [HFL.out]; rfl)] at hb9
    have B9 := Lib.hid hb9
    clear hb9
    have hz9 := hk9.size
    have kw9 : Kept p w.heap.size w w9 := kw8.trans (hk9.one (by omega) (.inl (by omega)))
    have R9 := Lib.hid (R8.out.kept hk9 (by omega) (by simp; omega))
    have hr9 : RdP w9 p S := hr8.own (b := w1.heap.size) hk9 (fun g hg => by have := hpl g hg; omega)
    go_wp2_with (fail)
    refine (c_octet_Err p S _ hr9).mono ?_
    rintro e w10 ⟨rfl, hr10, hk10⟩
    have hz10 := hk10.size
    have kw10 : Kept p w.heap.size w w10 := kw9.trans (hk10.mono (by omega))
    have B10 := Lib.hid (B9.out.kept hk10 (by omega) (ne_of_lt hpl (by omega)))
    have R10 := Lib.hid (R9.out.kept hk10 (by omega) (ne_of_lt hpl (by omega)))
    go_wp2_with (with_reducible refine stop_load 27 (.tmp 3) rfl rfl ?_)
    refine Stop.mk (wpList_loadB rfl _ _ rfl w1.heap.size rfl _ B10.out strP (by rw [Patch.arr_size, HFL.out]) ?_)
    go_wp2_with (with_reducible refine stop_store 27 (.tmp 2) (.tmp 23) rfl rfl ?_)
    refine Stop.mk (wpList_storeB rfl _ _ _ rfl w.heap.size _ rfl rfl _ R10.out strP (by rw [Patch.arr_size, HFL.out]) (by rw [Patch.arr_size, HFL.out]; rfl) (Patch.arr_ones _) ?_)
    intro w11 hb11 hk11
    have hE : S.e = 0 := by simpa using he
    have hv : rdPatch st = ptPatch st := rdPatch_ok (by rw [← HS.out]; exact hE)
    have B11 := Lib.hid hb11
    clear hb11
    go_wp2_with (fail)
    exact bodyPost_ret (results_B rfl rfl B11.out strP (by rw [Patch.arr_size, HFL.out])) rfl ⟨by rw [hv, HL.out, HMM.out]; rfl, hr10.own (b := w.heap.size) hk11 hpl, kw10.trans (hk11.one (by omega) (.inl (Nat.le_refl _)))⟩
  · rw [← HS.out]
    go_enter Tryd.func135, Tryd.ntmps135
    go_wp2_with (fail)
    refine (c_cardwire_above p st 511 _ (hr.below ((Below.refl _ _).alloc (Nat.le_refl _) _))).mono ?_
    rintro e w1 ⟨rfl, hr1, hk1⟩
    rw [← HM.out]
    have hz1 := hk1.size
    simp only [World.size_alloc] at hz1
    have kw1 : Kept p w.heap.size w w1 := (by repeat (first | exact Kept.refl _ _ _ | refine Kept.drew ?_ | refine Kept.alloc ?_ (by first | omega | (simp; done) | (simp; omega)) _ | refine Kept.setCell ?_ (by first | (right; rfl) | (left; first | omega | (simp; done) | (simp; omega))) _ | refine Kept.then_kept ?_ (by assumption) (by first | omega | (simp; done) | (simp; omega)) | refine Kept.then_below ?_ (by assumption) (by first | omega | (simp; done) | (simp; omega)) | refine Kept.low ?_ (by assumption)))
    have R1 := Lib.hid ((Blk.new w _ _).kept hk1 (by simp) (ne_of_lt hpl (Nat.le_refl _)))
    go_wp2_with (with_reducible refine stop_store 27 (.tmp 3) (.tmp 7) rfl rfl ?_)
    refine Stop.mk (wpList_storeB rfl _ _ _ rfl w1.heap.size _ rfl rfl _ (Blk.new _ _ _) strP rfl rfl (by simp [Value.oneCell']) ?_)
    intro w2 hb2 hk2
    have B2 := Lib.hid (show Blk w2 w1.heap.size (Patch.arr ⟨M, 0, f8z⟩) by unfold Patch.arr; exact hb2)
    clear hb2
    have R2 := Lib.hid ((R1.out.alloc _).kept hk2 (by simp; omega) (by simp; omega))
    have hz2 := hk2.size
    simp only [World.size_alloc] at hz2
    have kw2 : Kept p w.heap.size w w2 := (kw1.alloc (by omega) _).trans (hk2.one (by simp; omega) (.inl (by omega)))
    have hr2 : RdP w2 p (ptA st) := (hr1.below ((Below.refl _ _).alloc (Nat.le_refl _) _)).own (b := w1.heap.size) hk2 (fun g hg => by have := hpl g hg; omega)
    have q20 := B2.out.cell (Patch.arr_head _).1
    go_wp2_with (fail)
    refine (c_mask_Labels M hM2 _).mono ?_
    rintro e w3 ⟨rfl, hb3⟩
    have hz3 := hb3.size
    have B3 := Lib.hid (B2.out.below hb3 B2.out.lt)
    have R3 := Lib.hid (R2.out.below hb3 R2.out.lt)
    have hr3 : RdP w3 p (ptA st) := hr2.below hb3
    have kw3 : Kept p w.heap.size w w3 := kw2.then_below hb3 (by omega)
    have q30 := B3.out.cell (Patch.arr_head _).1
    clear q20
    obtain ⟨t1, t2⟩ := ptB_no (st := st) (by rw [← HMM.out]; exact h8)
    have T2 := Lib.hid (HL.out.trans t2)
    have HD := Lib.hid (show S = rdFs' true (bitsTo M 8) (ptA st) by rw [← t1]; exact HD0.out)
    have HF1 := Lib.hid (show ptF st = rdFv true (bitsTo M 8) (ptA st) f8z by rw [← t1]; exact HF.out)
    have C6 := Lib.hid (show Blk w3 w1.heap.size (Patch.arr ⟨M, L, f8z⟩) by rw [T2.out]; exact B3.out)
    clear t1 t2
    go_wp2_with (fail)
    refine (c_cardwire_fields p (ptA st) M true _ hM2 (hT.kept kw3 ht) hr3).mono ?_
    rintro e w8 ⟨rfl, hr8, hk8⟩
    have hz8 := hk8.size
    have kw8 : Kept p w.heap.size w w8 := kw3.trans (hk8.mono (by omega))
    have R8 := Lib.hid (R3.out.kept hk8 (by omega) (ne_of_lt hpl (by omega)))
    have B8 := Lib.hid (C6.out.kept hk8 (by omega) (ne_of_lt hpl (by omega)))
    rw [← HD.out] at hr8
    rw [← HF1.out]
    go_wp2_with (with_reducible refine stop_store 25 (.tmp 18) (.tmp 17) rfl rfl ?_)
    refine Stop.mk (wpList_storeAt rfl _ _ _ rfl w1.heap.size 2 (farr (ptF st)) rfl rfl _ B8.out strF (by rw [farr_size, HFL.out]) (by rw [Patch.arr_size, farr_size, HFL.out]; simp) (farr_one _) ?_)
    intro w9 hb9 hk9
    rw [Patch.putF (by rw [HFL.out]; rfl)] at hb9
    have B9 := Lib.hid hb9
    clear hb9
    have hz9 := hk9.size
    have kw9 : Kept p w.heap.size w w9 := kw8.trans (hk9.one (by omega) (.inl (by omega)))
    have R9 := Lib.hid (R8.out.kept hk9 (by omega) (by simp; omega))
    have hr9 : RdP w9 p S := hr8.own (b := w1.heap.size) hk9 (fun g hg => by have := hpl g hg; omega)
    go_wp2_with (fail)
    refine (c_octet_Err p S _ hr9).mono ?_
    rintro e w10 ⟨rfl, hr10, hk10⟩
    have hz10 := hk10.size
    have kw10 : Kept p w.heap.size w w10 := kw9.trans (hk10.mono (by omega))
    have B10 := Lib.hid (B9.out.kept hk10 (by omega) (ne_of_lt hpl (by omega)))
    have R10 := Lib.hid (R9.out.kept hk10 (by omega) (ne_of_lt hpl (by omega)))
    go_wp2_with (with_reducible refine stop_store 27 (.tmp 2) (.tmp 22) rfl rfl ?_)
    refine Stop.mk (wpList_storeB rfl _ _ _ rfl w.heap.size _ rfl rfl _ R10.out strP rfl rfl (by simp [Value.oneCell']) ?_)
    intro w11 hb11 hk11
    have hE : S.e ≠ 0 := by simpa using he
    have hv : rdPatch st = pz := rdPatch_bad (by rw [← HS.out]; exact hE)
    have B11 := Lib.hid (show Blk w11 w.heap.size pz.arr by unfold Patch.arr; exact hb11)
    clear hb11
    go_wp2_with (fail)
    exact bodyPost_ret (results_B rfl rfl B11.out strP (by unfold Patch.arr; rfl)) rfl ⟨by rw [hv], hr10.own (b := w.heap.size) hk11 hpl, kw10.trans (hk11.one (by omega) (.inl (Nat.le_refl _)))⟩
  · rw [← HS.out]
    go_enter Tryd.func135, Tryd.ntmps135
    go_wp2_with (fail)
    refine (c_cardwire_above p st 511 _ (hr.below ((Below.refl _ _).alloc (Nat.le_refl _) _))).mono ?_
    rintro e w1 ⟨rfl, hr1, hk1⟩
    rw [← HM.out]
    have hz1 := hk1.size
    simp only [World.size_alloc] at hz1
    have kw1 : Kept p w.heap.size w w1 := (by repeat (first | exact Kept.refl _ _ _ | refine Kept.drew ?_ | refine Kept.alloc ?_ (by first | omega | (simp; done) | (simp; omega)) _ | refine Kept.setCell ?_ (by first | (right; rfl) | (left; first | omega | (simp; done) | (simp; omega))) _ | refine Kept.then_kept ?_ (by assumption) (by first | omega | (simp; done) | (simp; omega)) | refine Kept.then_below ?_ (by assumption) (by first | omega | (simp; done) | (simp; omega)) | refine Kept.low ?_ (by assumption)))
    have R1 := Lib.hid ((Blk.new w _ _).kept hk1 (by simp) (ne_of_lt hpl (Nat.le_refl _)))
    go_wp2_with (with_reducible refine stop_store 27 (.tmp 3) (.tmp 7) rfl rfl ?_)
    refine Stop.mk (wpList_storeB rfl _ _ _ rfl w1.heap.size _ rfl rfl _ (Blk.new _ _ _) strP rfl rfl (by simp [Value.oneCell']) ?_)
    intro w2 hb2 hk2
    have B2 := Lib.hid (show Blk w2 w1.heap.size (Patch.arr ⟨M, 0, f8z⟩) by unfold Patch.arr; exact hb2)
    clear hb2
    have R2 := Lib.hid ((R1.out.alloc _).kept hk2 (by simp; omega) (by simp; omega))
    have hz2 := hk2.size
    simp only [World.size_alloc] at hz2
    have kw2 : Kept p w.heap.size w w2 := (kw1.alloc (by omega) _).trans (hk2.one (by simp; omega) (.inl (by omega)))
    have hr2 : RdP w2 p (ptA st) := (hr1.below ((Below.refl _ _).alloc (Nat.le_refl _) _)).own (b := w1.heap.size) hk2 (fun g hg => by have := hpl g hg; omega)
    have q20 := B2.out.cell (Patch.arr_head _).1
    go_wp2_with (fail)
    refine (c_mask_Labels M hM2 _).mono ?_
    rintro e w3 ⟨rfl, hb3⟩
    have hz3 := hb3.size
    have B3 := Lib.hid (B2.out.below hb3 B2.out.lt)
    have R3 := Lib.hid (R2.out.below hb3 R2.out.lt)
    have hr3 : RdP w3 p (ptA st) := hr2.below hb3
    have kw3 : Kept p w.heap.size w w3 := kw2.then_below hb3 (by omega)
    have q30 := B3.out.cell (Patch.arr_head _).1
    clear q20
    obtain ⟨t1, t2⟩ := ptB_yes (st := st) (by rw [← HMM.out]; exact h8)
    have T2 := Lib.hid (HL.out.trans t2)
    have HD := Lib.hid (show S = rdFs' true (bitsTo M 8) (rdN' (ptA st) 65535) by rw [← t1]; exact HD0.out)
    have HF1 := Lib.hid (show ptF st = rdFv true (bitsTo M 8) (rdN' (ptA st) 65535) f8z by rw [← t1]; exact HF.out)
    clear t1 t2
    go_wp2_with (fail)
    refine (c_cardwire_labels p (ptA st) _ hr3).mono ?_
    rintro e w4 ⟨rfl, hr4, hk4⟩
    rw [← T2.out]
    have hz4 := hk4.size
    have kw4 : Kept p w.heap.size w w4 := kw3.trans (hk4.mono (by omega))
    have B4 := B3.out.kept hk4 (by omega) (ne_of_lt hpl (by omega))
    have R4 := Lib.hid (R3.out.kept hk4 (by omega) (ne_of_lt hpl (by omega)))
    have q41 := B4.cell (Patch.arr_head _).2
    have f41 := B4.frozen 1
    have C5 := Lib.hid (show Blk (w4.setCell ⟨w1.heap.size, 1, none⟩ (.int .u32 L)) w1.heap.size (Patch.arr ⟨M, L, f8z⟩) by have := B4.store 1 (.int .u32 L); rw [Patch.put1] at this; exact this)
    have q50 := C5.out.cell (Patch.arr_head _).1
    clear B4 q30
    go_wp2_with (fail)
    have R5 := Lib.hid (R4.out.far (q := ⟨w1.heap.size, 1, none⟩) (by simp; omega) (.int .u32 L))
    have hr5 : RdP (w4.setCell ⟨w1.heap.size, 1, none⟩ (.int .u32 L)) p (rdN' (ptA st) 65535) := RdP.own (b := w1.heap.size) hr4 (by repeat (first | exact Kept.refl _ _ _ | refine Kept.drew ?_ | refine Kept.alloc ?_ (by first | omega | (simp; done) | (simp; omega)) _ | refine Kept.setCell ?_ (by first | (right; rfl) | (left; first | omega | (simp; done) | (simp; omega))) _ | refine Kept.then_kept ?_ (by assumption) (by first | omega | (simp; done) | (simp; omega)) | refine Kept.then_below ?_ (by assumption) (by first | omega | (simp; done) | (simp; omega)) | refine Kept.low ?_ (by assumption))) (fun g hg => by have := hpl g hg; omega)
    have kw5 : Kept p w.heap.size w (w4.setCell ⟨w1.heap.size, 1, none⟩ (.int .u32 L)) := kw4.setCell (.inl (by simp; omega)) _
    obtain ⟨w5, hw5⟩ : ∃ w5, w5 = w4.setCell ⟨w1.heap.size, 1, none⟩ (.int .u32 L) := ⟨_, rfl⟩
    have hz5 : w5.heap.size = w4.heap.size := by rw [hw5]; simp [World.setCell]
    rw [← hw5] at C5 R5 hr5 kw5 q50 ⊢
    clear hw5 q41 f41
    have C6 := C5
    refine (c_cardwire_fields p (rdN' (ptA st) 65535) M true _ hM2 (hT.kept kw5 ht) hr5).mono ?_
    rintro e w8 ⟨rfl, hr8, hk8⟩
    have hz8 := hk8.size
    have kw8 : Kept p w.heap.size w w8 := kw5.trans (hk8.mono (by omega))
    have R8 := Lib.hid (R5.out.kept hk8 (by omega) (ne_of_lt hpl (by omega)))
    have B8 := Lib.hid (C6.out.kept hk8 (by omega) (ne_of_lt hpl (by omega)))
    rw [← HD.out] at hr8
    rw [← HF1.out]
    go_wp2_with (with_reducible refine stop_store 25 (.tmp 18) (.tmp 17) rfl rfl ?_)
    refine Stop.mk (wpList_storeAt rfl _ _ _ rfl w1.heap.size 2 (farr (ptF st)) rfl rfl _ B8.out strF (by rw [farr_size, HFL.out]) (by rw [Patch.arr_size, farr_size, HFL.out]; simp) (farr_one _) ?_)
    intro w9 hb9 hk9
    rw [Patch.putF (by rw [HFL.out]; rfl)] at hb9
    have B9 := Lib.hid hb9
    clear hb9
    have hz9 := hk9.size
    have kw9 : Kept p w.heap.size w w9 := kw8.trans (hk9.one (by omega) (.inl (by omega)))
    have R9 := Lib.hid (R8.out.kept hk9 (by omega) (by simp; omega))
    have hr9 : RdP w9 p S := hr8.own (b := w1.heap.size) hk9 (fun g hg => by have := hpl g hg; omega)
    go_wp2_with (fail)
    refine (c_octet_Err p S _ hr9).mono ?_
    rintro e w10 ⟨rfl, hr10, hk10⟩
    have hz10 := hk10.size
    have kw10 : Kept p w.heap.size w w10 := kw9.trans (hk10.mono (by omega))
    have B10 := Lib.hid (B9.out.kept hk10 (by omega) (ne_of_lt hpl (by omega)))
    have R10 := Lib.hid (R9.out.kept hk10 (by omega) (ne_of_lt hpl (by omega)))
    go_wp2_with (with_reducible refine stop_store 27 (.tmp 2) (.tmp 22) rfl rfl ?_)
    refine Stop.mk (wpList_storeB rfl _ _ _ rfl w.heap.size _ rfl rfl _ R10.out strP rfl rfl (by simp [Value.oneCell']) ?_)
    intro w11 hb11 hk11
    have hE : S.e ≠ 0 := by simpa using he
    have hv : rdPatch st = pz := rdPatch_bad (by rw [← HS.out]; exact hE)
    have B11 := Lib.hid (show Blk w11 w.heap.size pz.arr by unfold Patch.arr; exact hb11)
    clear hb11
    go_wp2_with (fail)
    exact bodyPost_ret (results_B rfl rfl B11.out strP (by unfold Patch.arr; rfl)) rfl ⟨by rw [hv], hr10.own (b := w.heap.size) hk11 hpl, kw10.trans (hk11.one (by omega) (.inl (Nat.le_refl _)))⟩
end Go.Proofs.YtjhndilflcigiaaDoor
