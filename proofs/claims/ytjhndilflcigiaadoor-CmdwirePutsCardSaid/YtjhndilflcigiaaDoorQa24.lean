/-
  The walk of the reference's Put of edits. (Printed by gen19p.py.)
-/
import Derived.Test.YtjhndilflcigiaaDoorQa23
import Derived.Test.YtjhndilflcigiaaDoorRows
import Derived.WalkKit
import Derived.WalkSpells
import Derived.WalkLawsBesides
import Derived.Lib.Hide
import Derived.Deep.QuietTactic
import Derived.BigQuiet
import Derived.Maps.AppendAt
import Derived.WalkSmall
import Derived.ProofKit
import Derived.OpenShut
import Derived.JoinedCond
import Derived.Deep.Slices
import Derived.Deep.Fields
import Derived.Carry
import Derived.Deep.AppendSrc
import Derived.Lib.AppendStr
import Derived.Laws.BytesArg
import Derived.Test.YtjhndilflcigiaaDoorProg
import Derived.Shelf.Spec.TrailingZeros
import Derived.RangeFuncNested
import Derived.RangeFuncBound
import Derived.RangeFuncCalls
import Derived.RangeFuncLeaves
import Derived.Shelf.Abstract
import Derived.Shelf.RegionOpen
import Derived.OwnWalkIn
import Derived.TacticsInMore
import Derived.LoopNIn
import Derived.LoopIn
import Derived.Test.YtjhndilflcigiaaDoorTie
import Derived.Lib.LaidTab
import Derived.LaidMore
import Derived.SevenTiedAt
import Derived.Test.YtjhndilflcigiaaDoorCards
import Derived.Laws.Tables
import Derived.Laws.Rows
import Derived.ChangeKeysEq
import Derived.Laws.StructEq
import Derived.Deep.CutBlock
import Derived.Deep.DeepCutAuto
import Derived.Laws.CopyOwn
import Derived.Outline
import Derived.IntWalk
import Derived.Lib.EndianBits
import Derived.StillTail
import Derived.Lib.AppendZeros
import Derived.Deep.Quiet
namespace Go.Proofs.YtjhndilflcigiaaDoor
open Go.RowKit

set_option maxHeartbeats 8000000 in
set_option maxRecDepth 4000 in
theorem c_ref19_Put (e : Edit) (w : World) (hf : e.p.f.length = 8) (hs : ∀ x ∈ e.p.f, x.s.length ≤ 4294967000) (hm : e.p.mask < 4294967296) :
    Calls Tryd.prog 42 #[.agg e.arr] w (RetV w (.string (str (editB e)))) := by
  have HF := Lib.hid hf
  have HZ := Lib.hid (Edit.size hf)
  have HZP := Lib.hid (show e.p.arr.size = 26 by rw [Patch.arr_size, hf])
  have B0 := Lib.hid (Blk.new w 29 e.arr)
  clear hf
  by_cases h : e.code = 0
  case neg =>
    have k : (e.code != 0) = true := by simpa using h
    have H : Hid (([] : List UInt8) = editB e) := by show _ = _; rw [editB_bad h]
    clear h
    go_enter Tryd.func42, Tryd.ntmps42
    go_wp2_with (with_reducible refine stop_load 29 (.tmp 1) rfl rfl ?_)
    refine Stop.mk (wpList_loadB rfl _ _ rfl w.heap.size rfl e.arr B0.out strE HZ.out ?_)
    go_wp2_with (fail)
    refine (c_ref19_Check e _ HF.out hs hm).mono ?_
    rintro e1 w1 ⟨rfl, hb1⟩
    have hw1 : Below w.heap.size w w1 := ((Below.refl _ _).alloc (Nat.le_refl _) _).trans (hb1.mono (by simp))
    go_wp2_with (fail)
    go_ret
    exact RetV.str H.out hw1
  case pos =>
  have k : (e.code != 0) = false := by simpa using h
  obtain ⟨h1, h7, -, -, -, -⟩ := Edit.code_zero h
  have hn1 := (num_len e.kind).2
  have hn2 := (num_len e.group).2
  have hn3 := (num_len e.id).2
  have hn4 := patchB_len e.p
  have HE := Lib.hid (editB_ok h)
  clear h
  cases hG : hasG e.kind <;> cases hI : hasI e.kind <;> cases hP : hasP e.kind
  · have H : Hid (num e.kind = editB e) := by show _ = _; rw [HE.out, hG, hI, hP]; simp
    go_enter Tryd.func42, Tryd.ntmps42
    go_wp2_with (with_reducible refine stop_load 29 (.tmp 1) rfl rfl ?_)
    refine Stop.mk (wpList_loadB rfl _ _ rfl w.heap.size rfl e.arr B0.out strE HZ.out ?_)
    go_wp2_with (fail)
    refine (c_ref19_Check e _ HF.out hs hm).mono ?_
    rintro e1 w1 ⟨rfl, hb1⟩
    have hw1 : Below w.heap.size w w1 := ((Below.refl _ _).alloc (Nat.le_refl _) _).trans (hb1.mono (by simp))
    have hz1 := hw1.size
    have B1 := Lib.hid (B0.out.below hb1 (by simp))
    have q1 := B1.out.cell e.arr_head.1
    clear hb1
    go_wp2_with (fail)
    refine (c_ref01_Num _ _).mono ?_
    rintro e2 w2 ⟨rfl, hb2⟩
    have hw2 : Below w.heap.size w w2 := hw1.trans (hb2.mono hz1)
    have hz2 := hw2.size
    have B2 := Lib.hid (B1.out.below hb2 B1.out.lt)
    have q2 := B2.out.cell e.arr_head.1
    clear hb2 q1
    go_wp2_with (fail)
    refine (c_ref19_group e.kind _ (by omega) h7).mono ?_
    rintro e3 w3 ⟨rfl, hb3⟩
    have hw3 : Below w.heap.size w w3 := hw2.trans (hb3.mono hz2)
    have hz3 := hw3.size
    have B3 := Lib.hid (B2.out.below hb3 B2.out.lt)
    have q3 := B3.out.cell e.arr_head.1
    clear hb3 q2
    go_wp2_with (fail)
    refine (c_ref19_id e.kind _ (by omega) h7).mono ?_
    rintro e4 w4 ⟨rfl, hb4⟩
    have hw4 : Below w.heap.size w w4 := hw3.trans (hb4.mono hz3)
    have hz4 := hw4.size
    have B4 := Lib.hid (B3.out.below hb4 B3.out.lt)
    have q4 := B4.out.cell e.arr_head.1
    clear hb4 q3
    go_wp2_with (fail)
    refine (c_ref19_patch e.kind _ (by omega) h7).mono ?_
    rintro e5 w5 ⟨rfl, hb5⟩
    have hw5 : Below w.heap.size w w5 := hw4.trans (hb5.mono hz4)
    have hz5 := hw5.size
    have B5 := Lib.hid (B4.out.below hb5 B4.out.lt)
    have q5 := B5.out.cell e.arr_head.1
    clear hb5 q4
    go_wp2_with (fail)
    go_ret
    exact RetV.str (by first | exact H.out | (have := H.out; simp only [List.append_assoc] at this ⊢; exact this)) hw5
  · have H : Hid (num e.kind ++ patchB e.p = editB e) := by show _ = _; rw [HE.out, hG, hI, hP]; simp
    go_enter Tryd.func42, Tryd.ntmps42
    go_wp2_with (with_reducible refine stop_load 29 (.tmp 1) rfl rfl ?_)
    refine Stop.mk (wpList_loadB rfl _ _ rfl w.heap.size rfl e.arr B0.out strE HZ.out ?_)
    go_wp2_with (fail)
    refine (c_ref19_Check e _ HF.out hs hm).mono ?_
    rintro e1 w1 ⟨rfl, hb1⟩
    have hw1 : Below w.heap.size w w1 := ((Below.refl _ _).alloc (Nat.le_refl _) _).trans (hb1.mono (by simp))
    have hz1 := hw1.size
    have B1 := Lib.hid (B0.out.below hb1 (by simp))
    have q1 := B1.out.cell e.arr_head.1
    clear hb1
    go_wp2_with (fail)
    refine (c_ref01_Num _ _).mono ?_
    rintro e2 w2 ⟨rfl, hb2⟩
    have hw2 : Below w.heap.size w w2 := hw1.trans (hb2.mono hz1)
    have hz2 := hw2.size
    have B2 := Lib.hid (B1.out.below hb2 B1.out.lt)
    have q2 := B2.out.cell e.arr_head.1
    clear hb2 q1
    go_wp2_with (fail)
    refine (c_ref19_group e.kind _ (by omega) h7).mono ?_
    rintro e3 w3 ⟨rfl, hb3⟩
    have hw3 : Below w.heap.size w w3 := hw2.trans (hb3.mono hz2)
    have hz3 := hw3.size
    have B3 := Lib.hid (B2.out.below hb3 B2.out.lt)
    have q3 := B3.out.cell e.arr_head.1
    clear hb3 q2
    go_wp2_with (fail)
    refine (c_ref19_id e.kind _ (by omega) h7).mono ?_
    rintro e4 w4 ⟨rfl, hb4⟩
    have hw4 : Below w.heap.size w w4 := hw3.trans (hb4.mono hz3)
    have hz4 := hw4.size
    have B4 := Lib.hid (B3.out.below hb4 B3.out.lt)
    have q4 := B4.out.cell e.arr_head.1
    clear hb4 q3
    go_wp2_with (fail)
    refine (c_ref19_patch e.kind _ (by omega) h7).mono ?_
    rintro e5 w5 ⟨rfl, hb5⟩
    have hw5 : Below w.heap.size w w5 := hw4.trans (hb5.mono hz4)
    have hz5 := hw5.size
    have B5 := Lib.hid (B4.out.below hb5 B4.out.lt)
    have q5 := B5.out.cell e.arr_head.1
    clear hb5 q4
    go_wp2_with (with_reducible refine stop_load 27 (.tmp 30) rfl rfl ?_)
    refine Stop.mk (wpList_loadAt rfl _ _ rfl w.heap.size 3 rfl e.p.arr (Edit.part B5.out) strP HZP.out ?_)
    go_wp2_with (fail)
    refine (c_ref08_PutPatch e.p _ hm HF.out hs).mono ?_
    rintro e6 w6 ⟨rfl, hb6⟩
    go_wp2_with (fail)
    go_ret
    exact RetV.str (by first | exact H.out | (have := H.out; simp only [List.append_assoc] at this ⊢; exact this)) (hw5.trans (hb6.mono hz5))
  · have H : Hid (num e.kind ++ num e.id = editB e) := by show _ = _; rw [HE.out, hG, hI, hP]; simp
    go_enter Tryd.func42, Tryd.ntmps42
    go_wp2_with (with_reducible refine stop_load 29 (.tmp 1) rfl rfl ?_)
    refine Stop.mk (wpList_loadB rfl _ _ rfl w.heap.size rfl e.arr B0.out strE HZ.out ?_)
    go_wp2_with (fail)
    refine (c_ref19_Check e _ HF.out hs hm).mono ?_
    rintro e1 w1 ⟨rfl, hb1⟩
    have hw1 : Below w.heap.size w w1 := ((Below.refl _ _).alloc (Nat.le_refl _) _).trans (hb1.mono (by simp))
    have hz1 := hw1.size
    have B1 := Lib.hid (B0.out.below hb1 (by simp))
    have q1 := B1.out.cell e.arr_head.1
    clear hb1
    go_wp2_with (fail)
    refine (c_ref01_Num _ _).mono ?_
    rintro e2 w2 ⟨rfl, hb2⟩
    have hw2 : Below w.heap.size w w2 := hw1.trans (hb2.mono hz1)
    have hz2 := hw2.size
    have B2 := Lib.hid (B1.out.below hb2 B1.out.lt)
    have q2 := B2.out.cell e.arr_head.1
    clear hb2 q1
    go_wp2_with (fail)
    refine (c_ref19_group e.kind _ (by omega) h7).mono ?_
    rintro e3 w3 ⟨rfl, hb3⟩
    have hw3 : Below w.heap.size w w3 := hw2.trans (hb3.mono hz2)
    have hz3 := hw3.size
    have B3 := Lib.hid (B2.out.below hb3 B2.out.lt)
    have q3 := B3.out.cell e.arr_head.1
    clear hb3 q2
    go_wp2_with (fail)
    refine (c_ref19_id e.kind _ (by omega) h7).mono ?_
    rintro e4 w4 ⟨rfl, hb4⟩
    have hw4 : Below w.heap.size w w4 := hw3.trans (hb4.mono hz3)
    have hz4 := hw4.size
    have B4 := Lib.hid (B3.out.below hb4 B3.out.lt)
    have q4 := B4.out.cell e.arr_head.2.1
    clear hb4 q3
    go_wp2_with (fail)
    refine (c_ref01_Num _ _).mono ?_
    rintro e5 w5 ⟨rfl, hb5⟩
    have hw5 : Below w.heap.size w w5 := hw4.trans (hb5.mono hz4)
    have hz5 := hw5.size
    have B5 := Lib.hid (B4.out.below hb5 B4.out.lt)
    have q5 := B5.out.cell e.arr_head.1
    clear hb5 q4
    go_wp2_with (fail)
    refine (c_ref19_patch e.kind _ (by omega) h7).mono ?_
    rintro e6 w6 ⟨rfl, hb6⟩
    have hw6 : Below w.heap.size w w6 := hw5.trans (hb6.mono hz5)
    have hz6 := hw6.size
    have B6 := Lib.hid (B5.out.below hb6 B5.out.lt)
    have q6 := B6.out.cell e.arr_head.1
    clear hb6 q5
    go_wp2_with (fail)
    go_ret
    exact RetV.str (by first | exact H.out | (have := H.out; simp only [List.append_assoc] at this ⊢; exact this)) hw6
  · have H : Hid (num e.kind ++ num e.id ++ patchB e.p = editB e) := by show _ = _; rw [HE.out, hG, hI, hP]; simp
    go_enter Tryd.func42, Tryd.ntmps42
    go_wp2_with (with_reducible refine stop_load 29 (.tmp 1) rfl rfl ?_)
    refine Stop.mk (wpList_loadB rfl _ _ rfl w.heap.size rfl e.arr B0.out strE HZ.out ?_)
    go_wp2_with (fail)
    refine (c_ref19_Check e _ HF.out hs hm).mono ?_
    rintro e1 w1 ⟨rfl, hb1⟩
    have hw1 : Below w.heap.size w w1 := ((Below.refl _ _).alloc (Nat.le_refl _) _).trans (hb1.mono (by simp))
    have hz1 := hw1.size
    have B1 := Lib.hid (B0.out.below hb1 (by simp))
    have q1 := B1.out.cell e.arr_head.1
    clear hb1
    go_wp2_with (fail)
    refine (c_ref01_Num _ _).mono ?_
    rintro e2 w2 ⟨rfl, hb2⟩
    have hw2 : Below w.heap.size w w2 := hw1.trans (hb2.mono hz1)
    have hz2 := hw2.size
    have B2 := Lib.hid (B1.out.below hb2 B1.out.lt)
    have q2 := B2.out.cell e.arr_head.1
    clear hb2 q1
    go_wp2_with (fail)
    refine (c_ref19_group e.kind _ (by omega) h7).mono ?_
    rintro e3 w3 ⟨rfl, hb3⟩
    have hw3 : Below w.heap.size w w3 := hw2.trans (hb3.mono hz2)
    have hz3 := hw3.size
    have B3 := Lib.hid (B2.out.below hb3 B2.out.lt)
    have q3 := B3.out.cell e.arr_head.1
    clear hb3 q2
    go_wp2_with (fail)
    refine (c_ref19_id e.kind _ (by omega) h7).mono ?_
    rintro e4 w4 ⟨rfl, hb4⟩
    have hw4 : Below w.heap.size w w4 := hw3.trans (hb4.mono hz3)
    have hz4 := hw4.size
    have B4 := Lib.hid (B3.out.below hb4 B3.out.lt)
    have q4 := B4.out.cell e.arr_head.2.1
    clear hb4 q3
    go_wp2_with (fail)
    refine (c_ref01_Num _ _).mono ?_
    rintro e5 w5 ⟨rfl, hb5⟩
    have hw5 : Below w.heap.size w w5 := hw4.trans (hb5.mono hz4)
    have hz5 := hw5.size
    have B5 := Lib.hid (B4.out.below hb5 B4.out.lt)
    have q5 := B5.out.cell e.arr_head.1
    clear hb5 q4
    go_wp2_with (fail)
    refine (c_ref19_patch e.kind _ (by omega) h7).mono ?_
    rintro e6 w6 ⟨rfl, hb6⟩
    have hw6 : Below w.heap.size w w6 := hw5.trans (hb6.mono hz5)
    have hz6 := hw6.size
    have B6 := Lib.hid (B5.out.below hb6 B5.out.lt)
    have q6 := B6.out.cell e.arr_head.1
    clear hb6 q5
    go_wp2_with (with_reducible refine stop_load 27 (.tmp 30) rfl rfl ?_)
    refine Stop.mk (wpList_loadAt rfl _ _ rfl w.heap.size 3 rfl e.p.arr (Edit.part B6.out) strP HZP.out ?_)
    go_wp2_with (fail)
    refine (c_ref08_PutPatch e.p _ hm HF.out hs).mono ?_
    rintro e7 w7 ⟨rfl, hb7⟩
    go_wp2_with (fail)
    go_ret
    exact RetV.str (by first | exact H.out | (have := H.out; simp only [List.append_assoc] at this ⊢; exact this)) (hw6.trans (hb7.mono hz6))
  · have H : Hid (num e.kind ++ num e.group = editB e) := by show _ = _; rw [HE.out, hG, hI, hP]; simp
    go_enter Tryd.func42, Tryd.ntmps42
    go_wp2_with (with_reducible refine stop_load 29 (.tmp 1) rfl rfl ?_)
    refine Stop.mk (wpList_loadB rfl _ _ rfl w.heap.size rfl e.arr B0.out strE HZ.out ?_)
    go_wp2_with (fail)
    refine (c_ref19_Check e _ HF.out hs hm).mono ?_
    rintro e1 w1 ⟨rfl, hb1⟩
    have hw1 : Below w.heap.size w w1 := ((Below.refl _ _).alloc (Nat.le_refl _) _).trans (hb1.mono (by simp))
    have hz1 := hw1.size
    have B1 := Lib.hid (B0.out.below hb1 (by simp))
    have q1 := B1.out.cell e.arr_head.1
    clear hb1
    go_wp2_with (fail)
    refine (c_ref01_Num _ _).mono ?_
    rintro e2 w2 ⟨rfl, hb2⟩
    have hw2 : Below w.heap.size w w2 := hw1.trans (hb2.mono hz1)
    have hz2 := hw2.size
    have B2 := Lib.hid (B1.out.below hb2 B1.out.lt)
    have q2 := B2.out.cell e.arr_head.1
    clear hb2 q1
    go_wp2_with (fail)
    refine (c_ref19_group e.kind _ (by omega) h7).mono ?_
    rintro e3 w3 ⟨rfl, hb3⟩
    have hw3 : Below w.heap.size w w3 := hw2.trans (hb3.mono hz2)
    have hz3 := hw3.size
    have B3 := Lib.hid (B2.out.below hb3 B2.out.lt)
    have q3 := B3.out.cell e.arr_head.2.2
    clear hb3 q2
    go_wp2_with (fail)
    refine (c_ref01_Num _ _).mono ?_
    rintro e4 w4 ⟨rfl, hb4⟩
    have hw4 : Below w.heap.size w w4 := hw3.trans (hb4.mono hz3)
    have hz4 := hw4.size
    have B4 := Lib.hid (B3.out.below hb4 B3.out.lt)
    have q4 := B4.out.cell e.arr_head.1
    clear hb4 q3
    go_wp2_with (fail)
    refine (c_ref19_id e.kind _ (by omega) h7).mono ?_
    rintro e5 w5 ⟨rfl, hb5⟩
    have hw5 : Below w.heap.size w w5 := hw4.trans (hb5.mono hz4)
    have hz5 := hw5.size
    have B5 := Lib.hid (B4.out.below hb5 B4.out.lt)
    have q5 := B5.out.cell e.arr_head.1
    clear hb5 q4
    go_wp2_with (fail)
    refine (c_ref19_patch e.kind _ (by omega) h7).mono ?_
    rintro e6 w6 ⟨rfl, hb6⟩
    have hw6 : Below w.heap.size w w6 := hw5.trans (hb6.mono hz5)
    have hz6 := hw6.size
    have B6 := Lib.hid (B5.out.below hb6 B5.out.lt)
    have q6 := B6.out.cell e.arr_head.1
    clear hb6 q5
    go_wp2_with (fail)
    go_ret
    exact RetV.str (by first | exact H.out | (have := H.out; simp only [List.append_assoc] at this ⊢; exact this)) hw6
  · have H : Hid (num e.kind ++ num e.group ++ patchB e.p = editB e) := by show _ = _; rw [HE.out, hG, hI, hP]; simp
    go_enter Tryd.func42, Tryd.ntmps42
    go_wp2_with (with_reducible refine stop_load 29 (.tmp 1) rfl rfl ?_)
    refine Stop.mk (wpList_loadB rfl _ _ rfl w.heap.size rfl e.arr B0.out strE HZ.out ?_)
    go_wp2_with (fail)
    refine (c_ref19_Check e _ HF.out hs hm).mono ?_
    rintro e1 w1 ⟨rfl, hb1⟩
    have hw1 : Below w.heap.size w w1 := ((Below.refl _ _).alloc (Nat.le_refl _) _).trans (hb1.mono (by simp))
    have hz1 := hw1.size
    have B1 := Lib.hid (B0.out.below hb1 (by simp))
    have q1 := B1.out.cell e.arr_head.1
    clear hb1
    go_wp2_with (fail)
    refine (c_ref01_Num _ _).mono ?_
    rintro e2 w2 ⟨rfl, hb2⟩
    have hw2 : Below w.heap.size w w2 := hw1.trans (hb2.mono hz1)
    have hz2 := hw2.size
    have B2 := Lib.hid (B1.out.below hb2 B1.out.lt)
    have q2 := B2.out.cell e.arr_head.1
    clear hb2 q1
    go_wp2_with (fail)
    refine (c_ref19_group e.kind _ (by omega) h7).mono ?_
    rintro e3 w3 ⟨rfl, hb3⟩
    have hw3 : Below w.heap.size w w3 := hw2.trans (hb3.mono hz2)
    have hz3 := hw3.size
    have B3 := Lib.hid (B2.out.below hb3 B2.out.lt)
    have q3 := B3.out.cell e.arr_head.2.2
    clear hb3 q2
    go_wp2_with (fail)
    refine (c_ref01_Num _ _).mono ?_
    rintro e4 w4 ⟨rfl, hb4⟩
    have hw4 : Below w.heap.size w w4 := hw3.trans (hb4.mono hz3)
    have hz4 := hw4.size
    have B4 := Lib.hid (B3.out.below hb4 B3.out.lt)
    have q4 := B4.out.cell e.arr_head.1
    clear hb4 q3
    go_wp2_with (fail)
    refine (c_ref19_id e.kind _ (by omega) h7).mono ?_
    rintro e5 w5 ⟨rfl, hb5⟩
    have hw5 : Below w.heap.size w w5 := hw4.trans (hb5.mono hz4)
    have hz5 := hw5.size
    have B5 := Lib.hid (B4.out.below hb5 B4.out.lt)
    have q5 := B5.out.cell e.arr_head.1
    clear hb5 q4
    go_wp2_with (fail)
    refine (c_ref19_patch e.kind _ (by omega) h7).mono ?_
    rintro e6 w6 ⟨rfl, hb6⟩
    have hw6 : Below w.heap.size w w6 := hw5.trans (hb6.mono hz5)
    have hz6 := hw6.size
    have B6 := Lib.hid (B5.out.below hb6 B5.out.lt)
    have q6 := B6.out.cell e.arr_head.1
    clear hb6 q5
    go_wp2_with (with_reducible refine stop_load 27 (.tmp 30) rfl rfl ?_)
    refine Stop.mk (wpList_loadAt rfl _ _ rfl w.heap.size 3 rfl e.p.arr (Edit.part B6.out) strP HZP.out ?_)
    go_wp2_with (fail)
    refine (c_ref08_PutPatch e.p _ hm HF.out hs).mono ?_
    rintro e7 w7 ⟨rfl, hb7⟩
    go_wp2_with (fail)
    go_ret
    exact RetV.str (by first | exact H.out | (have := H.out; simp only [List.append_assoc] at this ⊢; exact this)) (hw6.trans (hb7.mono hz6))
  · have H : Hid (num e.kind ++ num e.group ++ num e.id = editB e) := by show _ = _; rw [HE.out, hG, hI, hP]; simp
    go_enter Tryd.func42, Tryd.ntmps42
    go_wp2_with (with_reducible refine stop_load 29 (.tmp 1) rfl rfl ?_)
    refine Stop.mk (wpList_loadB rfl _ _ rfl w.heap.size rfl e.arr B0.out strE HZ.out ?_)
    go_wp2_with (fail)
    refine (c_ref19_Check e _ HF.out hs hm).mono ?_
    rintro e1 w1 ⟨rfl, hb1⟩
    have hw1 : Below w.heap.size w w1 := ((Below.refl _ _).alloc (Nat.le_refl _) _).trans (hb1.mono (by simp))
    have hz1 := hw1.size
    have B1 := Lib.hid (B0.out.below hb1 (by simp))
    have q1 := B1.out.cell e.arr_head.1
    clear hb1
    go_wp2_with (fail)
    refine (c_ref01_Num _ _).mono ?_
    rintro e2 w2 ⟨rfl, hb2⟩
    have hw2 : Below w.heap.size w w2 := hw1.trans (hb2.mono hz1)
    have hz2 := hw2.size
    have B2 := Lib.hid (B1.out.below hb2 B1.out.lt)
    have q2 := B2.out.cell e.arr_head.1
    clear hb2 q1
    go_wp2_with (fail)
    refine (c_ref19_group e.kind _ (by omega) h7).mono ?_
    rintro e3 w3 ⟨rfl, hb3⟩
    have hw3 : Below w.heap.size w w3 := hw2.trans (hb3.mono hz2)
    have hz3 := hw3.size
    have B3 := Lib.hid (B2.out.below hb3 B2.out.lt)
    have q3 := B3.out.cell e.arr_head.2.2
    clear hb3 q2
    go_wp2_with (fail)
    refine (c_ref01_Num _ _).mono ?_
    rintro e4 w4 ⟨rfl, hb4⟩
    have hw4 : Below w.heap.size w w4 := hw3.trans (hb4.mono hz3)
    have hz4 := hw4.size
    have B4 := Lib.hid (B3.out.below hb4 B3.out.lt)
    have q4 := B4.out.cell e.arr_head.1
    clear hb4 q3
    go_wp2_with (fail)
    refine (c_ref19_id e.kind _ (by omega) h7).mono ?_
    rintro e5 w5 ⟨rfl, hb5⟩
    have hw5 : Below w.heap.size w w5 := hw4.trans (hb5.mono hz4)
    have hz5 := hw5.size
    have B5 := Lib.hid (B4.out.below hb5 B4.out.lt)
    have q5 := B5.out.cell e.arr_head.2.1
    clear hb5 q4
    go_wp2_with (fail)
    refine (c_ref01_Num _ _).mono ?_
    rintro e6 w6 ⟨rfl, hb6⟩
    have hw6 : Below w.heap.size w w6 := hw5.trans (hb6.mono hz5)
    have hz6 := hw6.size
    have B6 := Lib.hid (B5.out.below hb6 B5.out.lt)
    have q6 := B6.out.cell e.arr_head.1
    clear hb6 q5
    go_wp2_with (fail)
    refine (c_ref19_patch e.kind _ (by omega) h7).mono ?_
    rintro e7 w7 ⟨rfl, hb7⟩
    have hw7 : Below w.heap.size w w7 := hw6.trans (hb7.mono hz6)
    have hz7 := hw7.size
    have B7 := Lib.hid (B6.out.below hb7 B6.out.lt)
    have q7 := B7.out.cell e.arr_head.1
    clear hb7 q6
    go_wp2_with (fail)
    go_ret
    exact RetV.str (by first | exact H.out | (have := H.out; simp only [List.append_assoc] at this ⊢; exact this)) hw7
  · have H : Hid (num e.kind ++ num e.group ++ num e.id ++ patchB e.p = editB e) := by show _ = _; rw [HE.out, hG, hI, hP]; simp
    go_enter Tryd.func42, Tryd.ntmps42
    go_wp2_with (with_reducible refine stop_load 29 (.tmp 1) rfl rfl ?_)
    refine Stop.mk (wpList_loadB rfl _ _ rfl w.heap.size rfl e.arr B0.out strE HZ.out ?_)
    go_wp2_with (fail)
    refine (c_ref19_Check e _ HF.out hs hm).mono ?_
    rintro e1 w1 ⟨rfl, hb1⟩
    have hw1 : Below w.heap.size w w1 := ((Below.refl _ _).alloc (Nat.le_refl _) _).trans (hb1.mono (by simp))
    have hz1 := hw1.size
    have B1 := Lib.hid (B0.out.below hb1 (by simp))
    have q1 := B1.out.cell e.arr_head.1
    clear hb1
    go_wp2_with (fail)
    refine (c_ref01_Num _ _).mono ?_
    rintro e2 w2 ⟨rfl, hb2⟩
    have hw2 : Below w.heap.size w w2 := hw1.trans (hb2.mono hz1)
    have hz2 := hw2.size
    have B2 := Lib.hid (B1.out.below hb2 B1.out.lt)
    have q2 := B2.out.cell e.arr_head.1
    clear hb2 q1
    go_wp2_with (fail)
    refine (c_ref19_group e.kind _ (by omega) h7).mono ?_
    rintro e3 w3 ⟨rfl, hb3⟩
    have hw3 : Below w.heap.size w w3 := hw2.trans (hb3.mono hz2)
    have hz3 := hw3.size
    have B3 := Lib.hid (B2.out.below hb3 B2.out.lt)
    have q3 := B3.out.cell e.arr_head.2.2
    clear hb3 q2
    go_wp2_with (fail)
    refine (c_ref01_Num _ _).mono ?_
    rintro e4 w4 ⟨rfl, hb4⟩
    have hw4 : Below w.heap.size w w4 := hw3.trans (hb4.mono hz3)
    have hz4 := hw4.size
    have B4 := Lib.hid (B3.out.below hb4 B3.out.lt)
    have q4 := B4.out.cell e.arr_head.1
    clear hb4 q3
    go_wp2_with (fail)
    refine (c_ref19_id e.kind _ (by omega) h7).mono ?_
    rintro e5 w5 ⟨rfl, hb5⟩
    have hw5 : Below w.heap.size w w5 := hw4.trans (hb5.mono hz4)
    have hz5 := hw5.size
    have B5 := Lib.hid (B4.out.below hb5 B4.out.lt)
    have q5 := B5.out.cell e.arr_head.2.1
    clear hb5 q4
    go_wp2_with (fail)
    refine (c_ref01_Num _ _).mono ?_
    rintro e6 w6 ⟨rfl, hb6⟩
    have hw6 : Below w.heap.size w w6 := hw5.trans (hb6.mono hz5)
    have hz6 := hw6.size
    have B6 := Lib.hid (B5.out.below hb6 B5.out.lt)
    have q6 := B6.out.cell e.arr_head.1
    clear hb6 q5
    go_wp2_with (fail)
    refine (c_ref19_patch e.kind _ (by omega) h7).mono ?_
    rintro e7 w7 ⟨rfl, hb7⟩
    have hw7 : Below w.heap.size w w7 := hw6.trans (hb7.mono hz6)
    have hz7 := hw7.size
    have B7 := Lib.hid (B6.out.below hb7 B6.out.lt)
    have q7 := B7.out.cell e.arr_head.1
    clear hb7 q6
    go_wp2_with (with_reducible refine stop_load 27 (.tmp 30) rfl rfl ?_)
    refine Stop.mk (wpList_loadAt rfl _ _ rfl w.heap.size 3 rfl e.p.arr (Edit.part B7.out) strP HZP.out ?_)
    go_wp2_with (fail)
    refine (c_ref08_PutPatch e.p _ hm HF.out hs).mono ?_
    rintro e8 w8 ⟨rfl, hb8⟩
    go_wp2_with (fail)
    go_ret
    exact RetV.str (by first | exact H.out | (have := H.out; simp only [List.append_assoc] at this ⊢; exact this)) (hw7.trans (hb8.mono hz7))
end Go.Proofs.YtjhndilflcigiaaDoor
