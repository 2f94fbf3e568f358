/-
  The walk of edit.Put: an edit as bytes. (Printed by gen19p.py.)
-/
import Derived.Test.YtjhndilflcigiaaDoorQc27
import Derived.Test.YtjhndilflcigiaaDoorRows
import Derived.WalkKit
import Derived.WalkSpells
import Derived.WalkLawsBesides
import Derived.Lib.Hide
import Derived.Deep.QuietTactic
import Derived.BigQuiet
import Derived.Maps.AppendAt
import Derived.WalkSmall
import Derived.ProofKit
import Derived.OpenShut
import Derived.JoinedCond
import Derived.Deep.Slices
import Derived.Deep.Fields
import Derived.Carry
import Derived.Deep.AppendSrc
import Derived.Lib.AppendStr
import Derived.Laws.BytesArg
import Derived.Test.YtjhndilflcigiaaDoorProg
import Derived.Shelf.Spec.TrailingZeros
import Derived.RangeFuncNested
import Derived.RangeFuncBound
import Derived.RangeFuncCalls
import Derived.RangeFuncLeaves
import Derived.Shelf.Abstract
import Derived.Shelf.RegionOpen
import Derived.OwnWalkIn
import Derived.TacticsInMore
import Derived.LoopNIn
import Derived.LoopIn
import Derived.Test.YtjhndilflcigiaaDoorTie
import Derived.Lib.LaidTab
import Derived.LaidMore
import Derived.SevenTiedAt
import Derived.Test.YtjhndilflcigiaaDoorCards
import Derived.Laws.Tables
import Derived.Laws.Rows
import Derived.ChangeKeysEq
import Derived.Laws.StructEq
import Derived.Deep.CutBlock
import Derived.Deep.DeepCutAuto
import Derived.Laws.CopyOwn
import Derived.Outline
import Derived.IntWalk
import Derived.Lib.EndianBits
import Derived.StillTail
import Derived.Lib.AppendZeros
import Derived.Deep.Quiet
import Derived.Maps.Own
import Derived.WalkMore
namespace Go.Proofs.YtjhndilflcigiaaDoor
open Go.RowKit

set_option maxHeartbeats 8000000 in
set_option maxRecDepth 4000 in
theorem c_edit_Put (b : List UInt8) (B : Option Addr) (cb : Nat) (e : Edit) (w : World) (hb : InB w B cb b) (hbl : b.length ≤ 900000) (hT : Tab w) (hf : e.p.f.length = 8) (hs : ∀ x ∈ e.p.f, x.s.length ≤ 4294967000) (hm : e.p.mask < 4294967296) :
    Calls Tryd.prog 38 #[.slice B b.length cb, .agg e.arr] w (RetS 1 bc 5 w (b ++ editB e)) := by
  have hL' := hb.1
  have hC' := hb.2.1
  have HF := Lib.hid hf
  have HIN := Lib.hid hb
  have HZ := Lib.hid (Edit.size hf)
  have HZP := Lib.hid (show e.p.arr.size = 26 by rw [Patch.arr_size, hf])
  have B0 := Lib.hid (Blk.new w 29 e.arr)
  clear hf hb
  by_cases h : e.code = 0
  case neg =>
    have k : (e.code != 0) = true := by simpa using h
    have H : Hid (b = b ++ editB e) := by show _ = _; rw [editB_bad h, List.append_nil]
    clear h
    go_enter Tryd.func38, Tryd.ntmps38
    go_wp2_with (with_reducible refine stop_load 29 (.tmp 3) rfl rfl ?_)
    refine Stop.mk (wpList_loadB rfl _ _ rfl w.heap.size rfl e.arr B0.out strE HZ.out ?_)
    go_wp2_with (fail)
    refine (c_edit_Check e _ HF.out hs hm).mono ?_
    rintro e1 w1 ⟨rfl, hb1⟩
    have hw1 : Below w.heap.size w w1 := ((Below.refl _ _).alloc (Nat.le_refl _) _).trans (hb1.mono (by simp))
    have hz1 := hw1.size
    go_wp2_with (fail)
    refine (c_Clone_b b B cb _ (HIN.out.below hw1)).mono ?_
    rintro e2 w2 ⟨v2, rfl, own2, hb2⟩
    go_wp2_with (fail)
    go_ret
    exact RetS.of own2 hz1 H.out (hw1.trans (hb2.mono hz1))
  case pos =>
  have k : (e.code != 0) = false := by simpa using h
  obtain ⟨h1, h7, -, -, -, -⟩ := Edit.code_zero h
  have hn1 := (num_len e.kind).2
  have hn2 := (num_len e.group).2
  have hn3 := (num_len e.id).2
  have hn4 := patchB_len e.p
  have HE := Lib.hid (editB_ok h)
  clear h
  cases hG : hasG e.kind <;> cases hI : hasI e.kind <;> cases hP : hasP e.kind
  · have H : Hid (b ++ num e.kind = b ++ editB e) := by show _ = _; rw [HE.out, hG, hI, hP]; simp
    have j1 : hasW e.kind 1 = false := hG
    have j2 : hasW e.kind 2 = false := hI
    have j4 : hasW e.kind 4 = false := hP
    clear hG hI hP
    go_enter Tryd.func38, Tryd.ntmps38
    go_wp2_with (with_reducible refine stop_load 29 (.tmp 3) rfl rfl ?_)
    refine Stop.mk (wpList_loadB rfl _ _ rfl w.heap.size rfl e.arr B0.out strE HZ.out ?_)
    go_wp2_with (fail)
    refine (c_edit_Check e _ HF.out hs hm).mono ?_
    rintro e1 w1 ⟨rfl, hb1⟩
    have hw1 : Below w.heap.size w w1 := ((Below.refl _ _).alloc (Nat.le_refl _) _).trans (hb1.mono (by simp))
    have hz1 := hw1.size
    have B1 := Lib.hid (B0.out.below hb1 (by simp))
    have q1 := B1.out.cell e.arr_head.1
    have N1 := Lib.hid (HIN.out.below hw1)
    clear hb1
    go_wp2_with (fail)
    refine (c_octet_Num b B cb _ _ N1.out).mono ?_
    rintro e2 w2 ⟨v2, rfl, own2, hb2⟩
    obtain ⟨l2, A2, c2, H2, hl2, rfl, in2, own2'⟩ := own_open bc_len own2 (b.length + 7) (by simp only [List.length_append]; omega) (by omega)
    have hw2 : Below w.heap.size w w2 := hw1.trans (hb2.mono hz1)
    have hz2 := hw2.size
    have B2 := Lib.hid (B1.out.below hb2 B1.out.lt)
    have q2 := B2.out.cell e.arr_head.1
    have N2 := Lib.hid in2
    have O2 := Lib.hid (own_base own2'.out hz1)
    clear own2 own2' in2 hb2 q1
    go_wp2_with (fail)
    refine (c_edit_has e.kind _ _ (by omega) h7 (by decide)).mono ?_
    rintro e3 w3 ⟨rfl, hb3⟩
    have hw3 : Below w.heap.size w w3 := hw2.trans (hb3.mono hz2)
    have hz3 := hw3.size
    have B3 := Lib.hid (B2.out.below hb3 B2.out.lt)
    have q3 := B3.out.cell e.arr_head.1
    have N3 := Lib.hid (N2.out.below hb3)
    have O3 := Lib.hid (own_below O2.out hb3)
    clear hb3 q2
    go_wp2_with (fail)
    refine (c_edit_has e.kind _ _ (by omega) h7 (by decide)).mono ?_
    rintro e4 w4 ⟨rfl, hb4⟩
    have hw4 : Below w.heap.size w w4 := hw3.trans (hb4.mono hz3)
    have hz4 := hw4.size
    have B4 := Lib.hid (B3.out.below hb4 B3.out.lt)
    have q4 := B4.out.cell e.arr_head.1
    have N4 := Lib.hid (N3.out.below hb4)
    have O4 := Lib.hid (own_below O3.out hb4)
    clear hb4 q3
    go_wp2_with (fail)
    refine (c_edit_has e.kind _ _ (by omega) h7 (by decide)).mono ?_
    rintro e5 w5 ⟨rfl, hb5⟩
    have hw5 : Below w.heap.size w w5 := hw4.trans (hb5.mono hz4)
    have hz5 := hw5.size
    have B5 := Lib.hid (B4.out.below hb5 B4.out.lt)
    have q5 := B5.out.cell e.arr_head.1
    have N5 := Lib.hid (N4.out.below hb5)
    have O5 := Lib.hid (own_below O4.out hb5)
    clear hb5 q4
    go_wp2_with (fail)
    go_ret
    exact RetS.of O5.out (Nat.le_refl _) (by rw [← H.out, H2.out]) hw5
  · have H : Hid (b ++ num e.kind ++ patchB e.p = b ++ editB e) := by show _ = _; rw [HE.out, hG, hI, hP]; simp
    have j1 : hasW e.kind 1 = false := hG
    have j2 : hasW e.kind 2 = false := hI
    have j4 : hasW e.kind 4 = true := hP
    clear hG hI hP
    go_enter Tryd.func38, Tryd.ntmps38
    go_wp2_with (with_reducible refine stop_load 29 (.tmp 3) rfl rfl ?_)
    refine Stop.mk (wpList_loadB rfl _ _ rfl w.heap.size rfl e.arr B0.out strE HZ.out ?_)
    go_wp2_with (fail)
    refine (c_edit_Check e _ HF.out hs hm).mono ?_
    rintro e1 w1 ⟨rfl, hb1⟩
    have hw1 : Below w.heap.size w w1 := ((Below.refl _ _).alloc (Nat.le_refl _) _).trans (hb1.mono (by simp))
    have hz1 := hw1.size
    have B1 := Lib.hid (B0.out.below hb1 (by simp))
    have q1 := B1.out.cell e.arr_head.1
    have N1 := Lib.hid (HIN.out.below hw1)
    clear hb1
    go_wp2_with (fail)
    refine (c_octet_Num b B cb _ _ N1.out).mono ?_
    rintro e2 w2 ⟨v2, rfl, own2, hb2⟩
    obtain ⟨l2, A2, c2, H2, hl2, rfl, in2, own2'⟩ := own_open bc_len own2 (b.length + 7) (by simp only [List.length_append]; omega) (by omega)
    have hw2 : Below w.heap.size w w2 := hw1.trans (hb2.mono hz1)
    have hz2 := hw2.size
    have B2 := Lib.hid (B1.out.below hb2 B1.out.lt)
    have q2 := B2.out.cell e.arr_head.1
    have N2 := Lib.hid in2
    have O2 := Lib.hid (own_base own2'.out hz1)
    clear own2 own2' in2 hb2 q1
    go_wp2_with (fail)
    refine (c_edit_has e.kind _ _ (by omega) h7 (by decide)).mono ?_
    rintro e3 w3 ⟨rfl, hb3⟩
    have hw3 : Below w.heap.size w w3 := hw2.trans (hb3.mono hz2)
    have hz3 := hw3.size
    have B3 := Lib.hid (B2.out.below hb3 B2.out.lt)
    have q3 := B3.out.cell e.arr_head.1
    have N3 := Lib.hid (N2.out.below hb3)
    have O3 := Lib.hid (own_below O2.out hb3)
    clear hb3 q2
    go_wp2_with (fail)
    refine (c_edit_has e.kind _ _ (by omega) h7 (by decide)).mono ?_
    rintro e4 w4 ⟨rfl, hb4⟩
    have hw4 : Below w.heap.size w w4 := hw3.trans (hb4.mono hz3)
    have hz4 := hw4.size
    have B4 := Lib.hid (B3.out.below hb4 B3.out.lt)
    have q4 := B4.out.cell e.arr_head.1
    have N4 := Lib.hid (N3.out.below hb4)
    have O4 := Lib.hid (own_below O3.out hb4)
    clear hb4 q3
    go_wp2_with (fail)
    refine (c_edit_has e.kind _ _ (by omega) h7 (by decide)).mono ?_
    rintro e5 w5 ⟨rfl, hb5⟩
    have hw5 : Below w.heap.size w w5 := hw4.trans (hb5.mono hz4)
    have hz5 := hw5.size
    have B5 := Lib.hid (B4.out.below hb5 B4.out.lt)
    have q5 := B5.out.cell e.arr_head.1
    have N5 := Lib.hid (N4.out.below hb5)
    have O5 := Lib.hid (own_below O4.out hb5)
    clear hb5 q4
    go_wp2_with (with_reducible refine stop_load 27 (.tmp 32) rfl rfl ?_)
    refine Stop.mk (wpList_loadAt rfl _ _ rfl w.heap.size 3 rfl e.p.arr (Edit.part B5.out) strP HZP.out ?_)
    go_wp2_with (fail)
    refine (c_cardwire_PutPatch l2 A2 c2 e.p _ N5.out (by omega) (hT.below hw5) hm HF.out hs).mono ?_
    rintro e6 w6 ⟨v6, rfl, own6, hb6⟩
    go_wp2_with (fail)
    go_ret
    exact RetS.of own6 hz5 (by rw [← H.out, H2.out]) (hw5.trans (hb6.mono hz5))
  · have H : Hid (b ++ num e.kind ++ num e.id = b ++ editB e) := by show _ = _; rw [HE.out, hG, hI, hP]; simp
    have j1 : hasW e.kind 1 = false := hG
    have j2 : hasW e.kind 2 = true := hI
    have j4 : hasW e.kind 4 = false := hP
    clear hG hI hP
    go_enter Tryd.func38, Tryd.ntmps38
    go_wp2_with (with_reducible refine stop_load 29 (.tmp 3) rfl rfl ?_)
    refine Stop.mk (wpList_loadB rfl _ _ rfl w.heap.size rfl e.arr B0.out strE HZ.out ?_)
    go_wp2_with (fail)
    refine (c_edit_Check e _ HF.out hs hm).mono ?_
    rintro e1 w1 ⟨rfl, hb1⟩
    have hw1 : Below w.heap.size w w1 := ((Below.refl _ _).alloc (Nat.le_refl _) _).trans (hb1.mono (by simp))
    have hz1 := hw1.size
    have B1 := Lib.hid (B0.out.below hb1 (by simp))
    have q1 := B1.out.cell e.arr_head.1
    have N1 := Lib.hid (HIN.out.below hw1)
    clear hb1
    go_wp2_with (fail)
    refine (c_octet_Num b B cb _ _ N1.out).mono ?_
    rintro e2 w2 ⟨v2, rfl, own2, hb2⟩
    obtain ⟨l2, A2, c2, H2, hl2, rfl, in2, own2'⟩ := own_open bc_len own2 (b.length + 7) (by simp only [List.length_append]; omega) (by omega)
    have hw2 : Below w.heap.size w w2 := hw1.trans (hb2.mono hz1)
    have hz2 := hw2.size
    have B2 := Lib.hid (B1.out.below hb2 B1.out.lt)
    have q2 := B2.out.cell e.arr_head.1
    have N2 := Lib.hid in2
    have O2 := Lib.hid (own_base own2'.out hz1)
    clear own2 own2' in2 hb2 q1
    go_wp2_with (fail)
    refine (c_edit_has e.kind _ _ (by omega) h7 (by decide)).mono ?_
    rintro e3 w3 ⟨rfl, hb3⟩
    have hw3 : Below w.heap.size w w3 := hw2.trans (hb3.mono hz2)
    have hz3 := hw3.size
    have B3 := Lib.hid (B2.out.below hb3 B2.out.lt)
    have q3 := B3.out.cell e.arr_head.1
    have N3 := Lib.hid (N2.out.below hb3)
    have O3 := Lib.hid (own_below O2.out hb3)
    clear hb3 q2
    go_wp2_with (fail)
    refine (c_edit_has e.kind _ _ (by omega) h7 (by decide)).mono ?_
    rintro e4 w4 ⟨rfl, hb4⟩
    have hw4 : Below w.heap.size w w4 := hw3.trans (hb4.mono hz3)
    have hz4 := hw4.size
    have B4 := Lib.hid (B3.out.below hb4 B3.out.lt)
    have q4 := B4.out.cell e.arr_head.2.1
    have N4 := Lib.hid (N3.out.below hb4)
    have O4 := Lib.hid (own_below O3.out hb4)
    clear hb4 q3
    go_wp2_with (fail)
    refine (c_octet_Num l2 A2 c2 _ _ N4.out).mono ?_
    rintro e5 w5 ⟨v5, rfl, own5, hb5⟩
    obtain ⟨l5, A5, c5, H5, hl5, rfl, in5, own5'⟩ := own_open bc_len own5 (b.length + 14) (by simp only [List.length_append]; omega) (by omega)
    have hw5 : Below w.heap.size w w5 := hw4.trans (hb5.mono hz4)
    have hz5 := hw5.size
    have B5 := Lib.hid (B4.out.below hb5 B4.out.lt)
    have q5 := B5.out.cell e.arr_head.1
    have N5 := Lib.hid in5
    have O5 := Lib.hid (own_base own5'.out hz4)
    clear own5 own5' in5 hb5 q4
    go_wp2_with (fail)
    refine (c_edit_has e.kind _ _ (by omega) h7 (by decide)).mono ?_
    rintro e6 w6 ⟨rfl, hb6⟩
    have hw6 : Below w.heap.size w w6 := hw5.trans (hb6.mono hz5)
    have hz6 := hw6.size
    have B6 := Lib.hid (B5.out.below hb6 B5.out.lt)
    have q6 := B6.out.cell e.arr_head.1
    have N6 := Lib.hid (N5.out.below hb6)
    have O6 := Lib.hid (own_below O5.out hb6)
    clear hb6 q5
    go_wp2_with (fail)
    go_ret
    exact RetS.of O6.out (Nat.le_refl _) (by rw [← H.out, H5.out, H2.out]) hw6
  · have H : Hid (b ++ num e.kind ++ num e.id ++ patchB e.p = b ++ editB e) := by show _ = _; rw [HE.out, hG, hI, hP]; simp
    have j1 : hasW e.kind 1 = false := hG
    have j2 : hasW e.kind 2 = true := hI
    have j4 : hasW e.kind 4 = true := hP
    clear hG hI hP
    go_enter Tryd.func38, Tryd.ntmps38
    go_wp2_with (with_reducible refine stop_load 29 (.tmp 3) rfl rfl ?_)
    refine Stop.mk (wpList_loadB rfl _ _ rfl w.heap.size rfl e.arr B0.out strE HZ.out ?_)
    go_wp2_with (fail)
    refine (c_edit_Check e _ HF.out hs hm).mono ?_
    rintro e1 w1 ⟨rfl, hb1⟩
    have hw1 : Below w.heap.size w w1 := ((Below.refl _ _).alloc (Nat.le_refl _) _).trans (hb1.mono (by simp))
    have hz1 := hw1.size
    have B1 := Lib.hid (B0.out.below hb1 (by simp))
    have q1 := B1.out.cell e.arr_head.1
    have N1 := Lib.hid (HIN.out.below hw1)
    clear hb1
    go_wp2_with (fail)
    refine (c_octet_Num b B cb _ _ N1.out).mono ?_
    rintro e2 w2 ⟨v2, rfl, own2, hb2⟩
    obtain ⟨l2, A2, c2, H2, hl2, rfl, in2, own2'⟩ := own_open bc_len own2 (b.length + 7) (by simp only [List.length_append]; omega) (by omega)
    have hw2 : Below w.heap.size w w2 := hw1.trans (hb2.mono hz1)
    have hz2 := hw2.size
    have B2 := Lib.hid (B1.out.below hb2 B1.out.lt)
    have q2 := B2.out.cell e.arr_head.1
    have N2 := Lib.hid in2
    have O2 := Lib.hid (own_base own2'.out hz1)
    clear own2 own2' in2 hb2 q1
    go_wp2_with (fail)
    refine (c_edit_has e.kind _ _ (by omega) h7 (by decide)).mono ?_
    rintro e3 w3 ⟨rfl, hb3⟩
    have hw3 : Below w.heap.size w w3 := hw2.trans (hb3.mono hz2)
    have hz3 := hw3.size
    have B3 := Lib.hid (B2.out.below hb3 B2.out.lt)
    have q3 := B3.out.cell e.arr_head.1
    have N3 := Lib.hid (N2.out.below hb3)
    have O3 := Lib.hid (own_below O2.out hb3)
    clear hb3 q2
    go_wp2_with (fail)
    refine (c_edit_has e.kind _ _ (by omega) h7 (by decide)).mono ?_
    rintro e4 w4 ⟨rfl, hb4⟩
    have hw4 : Below w.heap.size w w4 := hw3.trans (hb4.mono hz3)
    have hz4 := hw4.size
    have B4 := Lib.hid (B3.out.below hb4 B3.out.lt)
    have q4 := B4.out.cell e.arr_head.2.1
    have N4 := Lib.hid (N3.out.below hb4)
    have O4 := Lib.hid (own_below O3.out hb4)
    clear hb4 q3
    go_wp2_with (fail)
    refine (c_octet_Num l2 A2 c2 _ _ N4.out).mono ?_
    rintro e5 w5 ⟨v5, rfl, own5, hb5⟩
    obtain ⟨l5, A5, c5, H5, hl5, rfl, in5, own5'⟩ := own_open bc_len own5 (b.length + 14) (by simp only [List.length_append]; omega) (by omega)
    have hw5 : Below w.heap.size w w5 := hw4.trans (hb5.mono hz4)
    have hz5 := hw5.size
    have B5 := Lib.hid (B4.out.below hb5 B4.out.lt)
    have q5 := B5.out.cell e.arr_head.1
    have N5 := Lib.hid in5
    have O5 := Lib.hid (own_base own5'.out hz4)
    clear own5 own5' in5 hb5 q4
    go_wp2_with (fail)
    refine (c_edit_has e.kind _ _ (by omega) h7 (by decide)).mono ?_
    rintro e6 w6 ⟨rfl, hb6⟩
    have hw6 : Below w.heap.size w w6 := hw5.trans (hb6.mono hz5)
    have hz6 := hw6.size
    have B6 := Lib.hid (B5.out.below hb6 B5.out.lt)
    have q6 := B6.out.cell e.arr_head.1
    have N6 := Lib.hid (N5.out.below hb6)
    have O6 := Lib.hid (own_below O5.out hb6)
    clear hb6 q5
    go_wp2_with (with_reducible refine stop_load 27 (.tmp 32) rfl rfl ?_)
    refine Stop.mk (wpList_loadAt rfl _ _ rfl w.heap.size 3 rfl e.p.arr (Edit.part B6.out) strP HZP.out ?_)
    go_wp2_with (fail)
    refine (c_cardwire_PutPatch l5 A5 c5 e.p _ N6.out (by omega) (hT.below hw6) hm HF.out hs).mono ?_
    rintro e7 w7 ⟨v7, rfl, own7, hb7⟩
    go_wp2_with (fail)
    go_ret
    exact RetS.of own7 hz6 (by rw [← H.out, H5.out, H2.out]) (hw6.trans (hb7.mono hz6))
  · have H : Hid (b ++ num e.kind ++ num e.group = b ++ editB e) := by show _ = _; rw [HE.out, hG, hI, hP]; simp
    have j1 : hasW e.kind 1 = true := hG
    have j2 : hasW e.kind 2 = false := hI
    have j4 : hasW e.kind 4 = false := hP
    clear hG hI hP
    go_enter Tryd.func38, Tryd.ntmps38
    go_wp2_with (with_reducible refine stop_load 29 (.tmp 3) rfl rfl ?_)
    refine Stop.mk (wpList_loadB rfl _ _ rfl w.heap.size rfl e.arr B0.out strE HZ.out ?_)
    go_wp2_with (fail)
    refine (c_edit_Check e _ HF.out hs hm).mono ?_
    rintro e1 w1 ⟨rfl, hb1⟩
    have hw1 : Below w.heap.size w w1 := ((Below.refl _ _).alloc (Nat.le_refl _) _).trans (hb1.mono (by simp))
    have hz1 := hw1.size
    have B1 := Lib.hid (B0.out.below hb1 (by simp))
    have q1 := B1.out.cell e.arr_head.1
    have N1 := Lib.hid (HIN.out.below hw1)
    clear hb1
    go_wp2_with (fail)
    refine (c_octet_Num b B cb _ _ N1.out).mono ?_
    rintro e2 w2 ⟨v2, rfl, own2, hb2⟩
    obtain ⟨l2, A2, c2, H2, hl2, rfl, in2, own2'⟩ := own_open bc_len own2 (b.length + 7) (by simp only [List.length_append]; omega) (by omega)
    have hw2 : Below w.heap.size w w2 := hw1.trans (hb2.mono hz1)
    have hz2 := hw2.size
    have B2 := Lib.hid (B1.out.below hb2 B1.out.lt)
    have q2 := B2.out.cell e.arr_head.1
    have N2 := Lib.hid in2
    have O2 := Lib.hid (own_base own2'.out hz1)
    clear own2 own2' in2 hb2 q1
    go_wp2_with (fail)
    refine (c_edit_has e.kind _ _ (by omega) h7 (by decide)).mono ?_
    rintro e3 w3 ⟨rfl, hb3⟩
    have hw3 : Below w.heap.size w w3 := hw2.trans (hb3.mono hz2)
    have hz3 := hw3.size
    have B3 := Lib.hid (B2.out.below hb3 B2.out.lt)
    have q3 := B3.out.cell e.arr_head.2.2
    have N3 := Lib.hid (N2.out.below hb3)
    have O3 := Lib.hid (own_below O2.out hb3)
    clear hb3 q2
    go_wp2_with (fail)
    refine (c_octet_Num l2 A2 c2 _ _ N3.out).mono ?_
    rintro e4 w4 ⟨v4, rfl, own4, hb4⟩
    obtain ⟨l4, A4, c4, H4, hl4, rfl, in4, own4'⟩ := own_open bc_len own4 (b.length + 14) (by simp only [List.length_append]; omega) (by omega)
    have hw4 : Below w.heap.size w w4 := hw3.trans (hb4.mono hz3)
    have hz4 := hw4.size
    have B4 := Lib.hid (B3.out.below hb4 B3.out.lt)
    have q4 := B4.out.cell e.arr_head.1
    have N4 := Lib.hid in4
    have O4 := Lib.hid (own_base own4'.out hz3)
    clear own4 own4' in4 hb4 q3
    go_wp2_with (fail)
    refine (c_edit_has e.kind _ _ (by omega) h7 (by decide)).mono ?_
    rintro e5 w5 ⟨rfl, hb5⟩
    have hw5 : Below w.heap.size w w5 := hw4.trans (hb5.mono hz4)
    have hz5 := hw5.size
    have B5 := Lib.hid (B4.out.below hb5 B4.out.lt)
    have q5 := B5.out.cell e.arr_head.1
    have N5 := Lib.hid (N4.out.below hb5)
    have O5 := Lib.hid (own_below O4.out hb5)
    clear hb5 q4
    go_wp2_with (fail)
    refine (c_edit_has e.kind _ _ (by omega) h7 (by decide)).mono ?_
    rintro e6 w6 ⟨rfl, hb6⟩
    have hw6 : Below w.heap.size w w6 := hw5.trans (hb6.mono hz5)
    have hz6 := hw6.size
    have B6 := Lib.hid (B5.out.below hb6 B5.out.lt)
    have q6 := B6.out.cell e.arr_head.1
    have N6 := Lib.hid (N5.out.below hb6)
    have O6 := Lib.hid (own_below O5.out hb6)
    clear hb6 q5
    go_wp2_with (fail)
    go_ret
    exact RetS.of O6.out (Nat.le_refl _) (by rw [← H.out, H4.out, H2.out]) hw6
  · have H : Hid (b ++ num e.kind ++ num e.group ++ patchB e.p = b ++ editB e) := by show _ = _; rw [HE.out, hG, hI, hP]; simp
    have j1 : hasW e.kind 1 = true := hG
    have j2 : hasW e.kind 2 = false := hI
    have j4 : hasW e.kind 4 = true := hP
    clear hG hI hP
    go_enter Tryd.func38, Tryd.ntmps38
    go_wp2_with (with_reducible refine stop_load 29 (.tmp 3) rfl rfl ?_)
    refine Stop.mk (wpList_loadB rfl _ _ rfl w.heap.size rfl e.arr B0.out strE HZ.out ?_)
    go_wp2_with (fail)
    refine (c_edit_Check e _ HF.out hs hm).mono ?_
    rintro e1 w1 ⟨rfl, hb1⟩
    have hw1 : Below w.heap.size w w1 := ((Below.refl _ _).alloc (Nat.le_refl _) _).trans (hb1.mono (by simp))
    have hz1 := hw1.size
    have B1 := Lib.hid (B0.out.below hb1 (by simp))
    have q1 := B1.out.cell e.arr_head.1
    have N1 := Lib.hid (HIN.out.below hw1)
    clear hb1
    go_wp2_with (fail)
    refine (c_octet_Num b B cb _ _ N1.out).mono ?_
    rintro e2 w2 ⟨v2, rfl, own2, hb2⟩
    obtain ⟨l2, A2, c2, H2, hl2, rfl, in2, own2'⟩ := own_open bc_len own2 (b.length + 7) (by simp only [List.length_append]; omega) (by omega)
    have hw2 : Below w.heap.size w w2 := hw1.trans (hb2.mono hz1)
    have hz2 := hw2.size
    have B2 := Lib.hid (B1.out.below hb2 B1.out.lt)
    have q2 := B2.out.cell e.arr_head.1
    have N2 := Lib.hid in2
    have O2 := Lib.hid (own_base own2'.out hz1)
    clear own2 own2' in2 hb2 q1
    go_wp2_with (fail)
    refine (c_edit_has e.kind _ _ (by omega) h7 (by decide)).mono ?_
    rintro e3 w3 ⟨rfl, hb3⟩
    have hw3 : Below w.heap.size w w3 := hw2.trans (hb3.mono hz2)
    have hz3 := hw3.size
    have B3 := Lib.hid (B2.out.below hb3 B2.out.lt)
    have q3 := B3.out.cell e.arr_head.2.2
    have N3 := Lib.hid (N2.out.below hb3)
    have O3 := Lib.hid (own_below O2.out hb3)
    clear hb3 q2
    go_wp2_with (fail)
    refine (c_octet_Num l2 A2 c2 _ _ N3.out).mono ?_
    rintro e4 w4 ⟨v4, rfl, own4, hb4⟩
    obtain ⟨l4, A4, c4, H4, hl4, rfl, in4, own4'⟩ := own_open bc_len own4 (b.length + 14) (by simp only [List.length_append]; omega) (by omega)
    have hw4 : Below w.heap.size w w4 := hw3.trans (hb4.mono hz3)
    have hz4 := hw4.size
    have B4 := Lib.hid (B3.out.below hb4 B3.out.lt)
    have q4 := B4.out.cell e.arr_head.1
    have N4 := Lib.hid in4
    have O4 := Lib.hid (own_base own4'.out hz3)
    clear own4 own4' in4 hb4 q3
    go_wp2_with (fail)
    refine (c_edit_has e.kind _ _ (by omega) h7 (by decide)).mono ?_
    rintro e5 w5 ⟨rfl, hb5⟩
    have hw5 : Below w.heap.size w w5 := hw4.trans (hb5.mono hz4)
    have hz5 := hw5.size
    have B5 := Lib.hid (B4.out.below hb5 B4.out.lt)
    have q5 := B5.out.cell e.arr_head.1
    have N5 := Lib.hid (N4.out.below hb5)
    have O5 := Lib.hid (own_below O4.out hb5)
    clear hb5 q4
    go_wp2_with (fail)
    refine (c_edit_has e.kind _ _ (by omega) h7 (by decide)).mono ?_
    rintro e6 w6 ⟨rfl, hb6⟩
    have hw6 : Below w.heap.size w w6 := hw5.trans (hb6.mono hz5)
    have hz6 := hw6.size
    have B6 := Lib.hid (B5.out.below hb6 B5.out.lt)
    have q6 := B6.out.cell e.arr_head.1
    have N6 := Lib.hid (N5.out.below hb6)
    have O6 := Lib.hid (own_below O5.out hb6)
    clear hb6 q5
    go_wp2_with (with_reducible refine stop_load 27 (.tmp 32) rfl rfl ?_)
    refine Stop.mk (wpList_loadAt rfl _ _ rfl w.heap.size 3 rfl e.p.arr (Edit.part B6.out) strP HZP.out ?_)
    go_wp2_with (fail)
    refine (c_cardwire_PutPatch l4 A4 c4 e.p _ N6.out (by omega) (hT.below hw6) hm HF.out hs).mono ?_
    rintro e7 w7 ⟨v7, rfl, own7, hb7⟩
    go_wp2_with (fail)
    go_ret
    exact RetS.of own7 hz6 (by rw [← H.out, H4.out, H2.out]) (hw6.trans (hb7.mono hz6))
  · have H : Hid (b ++ num e.kind ++ num e.group ++ num e.id = b ++ editB e) := by show _ = _; rw [HE.out, hG, hI, hP]; simp
    have j1 : hasW e.kind 1 = true := hG
    have j2 : hasW e.kind 2 = true := hI
    have j4 : hasW e.kind 4 = false := hP
    clear hG hI hP
    go_enter Tryd.func38, Tryd.ntmps38
    go_wp2_with (with_reducible refine stop_load 29 (.tmp 3) rfl rfl ?_)
    refine Stop.mk (wpList_loadB rfl _ _ rfl w.heap.size rfl e.arr B0.out strE HZ.out ?_)
    go_wp2_with (fail)
    refine (c_edit_Check e _ HF.out hs hm).mono ?_
    rintro e1 w1 ⟨rfl, hb1⟩
    have hw1 : Below w.heap.size w w1 := ((Below.refl _ _).alloc (Nat.le_refl _) _).trans (hb1.mono (by simp))
    have hz1 := hw1.size
    have B1 := Lib.hid (B0.out.below hb1 (by simp))
    have q1 := B1.out.cell e.arr_head.1
    have N1 := Lib.hid (HIN.out.below hw1)
    clear hb1
    go_wp2_with (fail)
    refine (c_octet_Num b B cb _ _ N1.out).mono ?_
    rintro e2 w2 ⟨v2, rfl, own2, hb2⟩
    obtain ⟨l2, A2, c2, H2, hl2, rfl, in2, own2'⟩ := own_open bc_len own2 (b.length + 7) (by simp only [List.length_append]; omega) (by omega)
    have hw2 : Below w.heap.size w w2 := hw1.trans (hb2.mono hz1)
    have hz2 := hw2.size
    have B2 := Lib.hid (B1.out.below hb2 B1.out.lt)
    have q2 := B2.out.cell e.arr_head.1
    have N2 := Lib.hid in2
    have O2 := Lib.hid (own_base own2'.out hz1)
    clear own2 own2' in2 hb2 q1
    go_wp2_with (fail)
    refine (c_edit_has e.kind _ _ (by omega) h7 (by decide)).mono ?_
    rintro e3 w3 ⟨rfl, hb3⟩
    have hw3 : Below w.heap.size w w3 := hw2.trans (hb3.mono hz2)
    have hz3 := hw3.size
    have B3 := Lib.hid (B2.out.below hb3 B2.out.lt)
    have q3 := B3.out.cell e.arr_head.2.2
    have N3 := Lib.hid (N2.out.below hb3)
    have O3 := Lib.hid (own_below O2.out hb3)
    clear hb3 q2
    go_wp2_with (fail)
    refine (c_octet_Num l2 A2 c2 _ _ N3.out).mono ?_
    rintro e4 w4 ⟨v4, rfl, own4, hb4⟩
    obtain ⟨l4, A4, c4, H4, hl4, rfl, in4, own4'⟩ := own_open bc_len own4 (b.length + 14) (by simp only [List.length_append]; omega) (by omega)
    have hw4 : Below w.heap.size w w4 := hw3.trans (hb4.mono hz3)
    have hz4 := hw4.size
    have B4 := Lib.hid (B3.out.below hb4 B3.out.lt)
    have q4 := B4.out.cell e.arr_head.1
    have N4 := Lib.hid in4
    have O4 := Lib.hid (own_base own4'.out hz3)
    clear own4 own4' in4 hb4 q3
    go_wp2_with (fail)
    refine (c_edit_has e.kind _ _ (by omega) h7 (by decide)).mono ?_
    rintro e5 w5 ⟨rfl, hb5⟩
    have hw5 : Below w.heap.size w w5 := hw4.trans (hb5.mono hz4)
    have hz5 := hw5.size
    have B5 := Lib.hid (B4.out.below hb5 B4.out.lt)
    have q5 := B5.out.cell e.arr_head.2.1
    have N5 := Lib.hid (N4.out.below hb5)
    have O5 := Lib.hid (own_below O4.out hb5)
    clear hb5 q4
    go_wp2_with (fail)
    refine (c_octet_Num l4 A4 c4 _ _ N5.out).mono ?_
    rintro e6 w6 ⟨v6, rfl, own6, hb6⟩
    obtain ⟨l6, A6, c6, H6, hl6, rfl, in6, own6'⟩ := own_open bc_len own6 (b.length + 21) (by simp only [List.length_append]; omega) (by omega)
    have hw6 : Below w.heap.size w w6 := hw5.trans (hb6.mono hz5)
    have hz6 := hw6.size
    have B6 := Lib.hid (B5.out.below hb6 B5.out.lt)
    have q6 := B6.out.cell e.arr_head.1
    have N6 := Lib.hid in6
    have O6 := Lib.hid (own_base own6'.out hz5)
    clear own6 own6' in6 hb6 q5
    go_wp2_with (fail)
    refine (c_edit_has e.kind _ _ (by omega) h7 (by decide)).mono ?_
    rintro e7 w7 ⟨rfl, hb7⟩
    have hw7 : Below w.heap.size w w7 := hw6.trans (hb7.mono hz6)
    have hz7 := hw7.size
    have B7 := Lib.hid (B6.out.below hb7 B6.out.lt)
    have q7 := B7.out.cell e.arr_head.1
    have N7 := Lib.hid (N6.out.below hb7)
    have O7 := Lib.hid (own_below O6.out hb7)
    clear hb7 q6
    go_wp2_with (fail)
    go_ret
    exact RetS.of O7.out (Nat.le_refl _) (by rw [← H.out, H6.out, H4.out, H2.out]) hw7
  · have H : Hid (b ++ num e.kind ++ num e.group ++ num e.id ++ patchB e.p = b ++ editB e) := by show _ = _; rw [HE.out, hG, hI, hP]; simp
    have j1 : hasW e.kind 1 = true := hG
    have j2 : hasW e.kind 2 = true := hI
    have j4 : hasW e.kind 4 = true := hP
    clear hG hI hP
    go_enter Tryd.func38, Tryd.ntmps38
    go_wp2_with (with_reducible refine stop_load 29 (.tmp 3) rfl rfl ?_)
    refine Stop.mk (wpList_loadB rfl _ _ rfl w.heap.size rfl e.arr B0.out strE HZ.out ?_)
    go_wp2_with (fail)
    refine (c_edit_Check e _ HF.out hs hm).mono ?_
    rintro e1 w1 ⟨rfl, hb1⟩
    have hw1 : Below w.heap.size w w1 := ((Below.refl _ _).alloc (Nat.le_refl _) _).trans (hb1.mono (by simp))
    have hz1 := hw1.size
    have B1 := Lib.hid (B0.out.below hb1 (by simp))
    have q1 := B1.out.cell e.arr_head.1
    have N1 := Lib.hid (HIN.out.below hw1)
    clear hb1
    go_wp2_with (fail)
    refine (c_octet_Num b B cb _ _ N1.out).mono ?_
    rintro e2 w2 ⟨v2, rfl, own2, hb2⟩
    obtain ⟨l2, A2, c2, H2, hl2, rfl, in2, own2'⟩ := own_open bc_len own2 (b.length + 7) (by simp only [List.length_append]; omega) (by omega)
    have hw2 : Below w.heap.size w w2 := hw1.trans (hb2.mono hz1)
    have hz2 := hw2.size
    have B2 := Lib.hid (B1.out.below hb2 B1.out.lt)
    have q2 := B2.out.cell e.arr_head.1
    have N2 := Lib.hid in2
    have O2 := Lib.hid (own_base own2'.out hz1)
    clear own2 own2' in2 hb2 q1
    go_wp2_with (fail)
    refine (c_edit_has e.kind _ _ (by omega) h7 (by decide)).mono ?_
    rintro e3 w3 ⟨rfl, hb3⟩
    have hw3 : Below w.heap.size w w3 := hw2.trans (hb3.mono hz2)
    have hz3 := hw3.size
    have B3 := Lib.hid (B2.out.below hb3 B2.out.lt)
    have q3 := B3.out.cell e.arr_head.2.2
    have N3 := Lib.hid (N2.out.below hb3)
    have O3 := Lib.hid (own_below O2.out hb3)
    clear hb3 q2
    go_wp2_with (fail)
    refine (c_octet_Num l2 A2 c2 _ _ N3.out).mono ?_
    rintro e4 w4 ⟨v4, rfl, own4, hb4⟩
    obtain ⟨l4, A4, c4, H4, hl4, rfl, in4, own4'⟩ := own_open bc_len own4 (b.length + 14) (by simp only [List.length_append]; omega) (by omega)
    have hw4 : Below w.heap.size w w4 := hw3.trans (hb4.mono hz3)
    have hz4 := hw4.size
    have B4 := Lib.hid (B3.out.below hb4 B3.out.lt)
    have q4 := B4.out.cell e.arr_head.1
    have N4 := Lib.hid in4
    have O4 := Lib.hid (own_base own4'.out hz3)
    clear own4 own4' in4 hb4 q3
    go_wp2_with (fail)
    refine (c_edit_has e.kind _ _ (by omega) h7 (by decide)).mono ?_
    rintro e5 w5 ⟨rfl, hb5⟩
    have hw5 : Below w.heap.size w w5 := hw4.trans (hb5.mono hz4)
    have hz5 := hw5.size
    have B5 := Lib.hid (B4.out.below hb5 B4.out.lt)
    have q5 := B5.out.cell e.arr_head.2.1
    have N5 := Lib.hid (N4.out.below hb5)
    have O5 := Lib.hid (own_below O4.out hb5)
    clear hb5 q4
    go_wp2_with (fail)
    refine (c_octet_Num l4 A4 c4 _ _ N5.out).mono ?_
    rintro e6 w6 ⟨v6, rfl, own6, hb6⟩
    obtain ⟨l6, A6, c6, H6, hl6, rfl, in6, own6'⟩ := own_open bc_len own6 (b.length + 21) (by simp only [List.length_append]; omega) (by omega)
    have hw6 : Below w.heap.size w w6 := hw5.trans (hb6.mono hz5)
    have hz6 := hw6.size
    have B6 := Lib.hid (B5.out.below hb6 B5.out.lt)
    have q6 := B6.out.cell e.arr_head.1
    have N6 := Lib.hid in6
    have O6 := Lib.hid (own_base own6'.out hz5)
    clear own6 own6' in6 hb6 q5
    go_wp2_with (fail)
    refine (c_edit_has e.kind _ _ (by omega) h7 (by decide)).mono ?_
    rintro e7 w7 ⟨rfl, hb7⟩
    have hw7 : Below w.heap.size w w7 := hw6.trans (hb7.mono hz6)
    have hz7 := hw7.size
    have B7 := Lib.hid (B6.out.below hb7 B6.out.lt)
    have q7 := B7.out.cell e.arr_head.1
    have N7 := Lib.hid (N6.out.below hb7)
    have O7 := Lib.hid (own_below O6.out hb7)
    clear hb7 q6
    go_wp2_with (with_reducible refine stop_load 27 (.tmp 32) rfl rfl ?_)
    refine Stop.mk (wpList_loadAt rfl _ _ rfl w.heap.size 3 rfl e.p.arr (Edit.part B7.out) strP HZP.out ?_)
    go_wp2_with (fail)
    refine (c_cardwire_PutPatch l6 A6 c6 e.p _ N7.out (by omega) (hT.below hw7) hm HF.out hs).mono ?_
    rintro e8 w8 ⟨v8, rfl, own8, hb8⟩
    go_wp2_with (fail)
    go_ret
    exact RetS.of own8 hz7 (by rw [← H.out, H6.out, H4.out, H2.out]) (hw7.trans (hb8.mono hz7))
end Go.Proofs.YtjhndilflcigiaaDoor
