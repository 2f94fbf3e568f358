/-
  The walk of cmdwire.Read: a command taken off bytes, by a map of functions. (Printed by gen33i.py.)
-/
import Derived.Test.YtjhndilflcigiaaDoorQc35
import Derived.Test.YtjhndilflcigiaaDoorRows
import Derived.WalkKit
import Derived.WalkSpells
import Derived.WalkLawsBesides
import Derived.Lib.Hide
import Derived.Deep.QuietTactic
import Derived.BigQuiet
import Derived.Maps.AppendAt
import Derived.WalkSmall
import Derived.ProofKit
import Derived.OpenShut
import Derived.JoinedCond
import Derived.Deep.Slices
import Derived.Deep.Fields
import Derived.Carry
import Derived.Deep.AppendSrc
import Derived.Lib.AppendStr
import Derived.Laws.BytesArg
import Derived.Test.YtjhndilflcigiaaDoorProg
import Derived.Shelf.Spec.TrailingZeros
import Derived.RangeFuncNested
import Derived.RangeFuncBound
import Derived.RangeFuncCalls
import Derived.RangeFuncLeaves
import Derived.Shelf.Abstract
import Derived.Shelf.RegionOpen
import Derived.OwnWalkIn
import Derived.TacticsInMore
import Derived.LoopNIn
import Derived.LoopIn
import Derived.Test.YtjhndilflcigiaaDoorTie
import Derived.Lib.LaidTab
import Derived.LaidMore
import Derived.SevenTiedAt
import Derived.Test.YtjhndilflcigiaaDoorCards
import Derived.Laws.Tables
import Derived.Laws.Rows
import Derived.ChangeKeysEq
import Derived.Laws.StructEq
import Derived.Deep.CutBlock
import Derived.Deep.DeepCutAuto
import Derived.Laws.CopyOwn
import Derived.Outline
import Derived.IntWalk
import Derived.Lib.EndianBits
import Derived.StillTail
import Derived.Lib.AppendZeros
import Derived.Deep.Quiet
import Derived.Maps.Own
import Derived.WalkMore
namespace Go.Proofs.YtjhndilflcigiaaDoor
open Go.RowKit

/-- The end of a call that reads a command. -/
def RetPC (p : Option Nat) (st' : Rd) (w : World) (c : Cmd) (e : Ending) (w' : World) : Prop :=
  ∃ A n, e = .returned (.agg (c.arr A n)) ∧ w'.ownsRow w.heap.size 132 5 (.slice A c.f.length n) c.f.length (c.f.flatMap Node.cells) ∧ RdP w' p st' ∧ Kept p w.heap.size w w'
theorem cmdK_arr (K : Int) : Cmd.arr { cmdz with kind := K } none 0 = #[.int .i64 K, .int .i64 0, .int .i64 0, .int .i64 0, .int .u32 0, .int .u32 0, .int .i64 0, .int .i64 0, .string (str []), .int .i64 0, .int .i64 0, .string (str []), .int .i64 0, .int .i64 0, .string (str []), .int .i64 0, .int .i64 0, .string (str []), .int .i64 0, .int .i64 0, .string (str []), .int .i64 0, .int .i64 0, .string (str []), .int .i64 0, .int .i64 0, .string (str []), .int .i64 0, .int .i64 0, .string (str []), .int .i64 0, .int .i64 0, .int .i64 0, .int .i64 0, .int .i64 0, .int .u32 0, .int .u32 0, .int .i64 0, .int .i64 0, .string (str []), .int .i64 0, .int .i64 0, .string (str []), .int .i64 0, .int .i64 0, .string (str []), .int .i64 0, .int .i64 0, .string (str []), .int .i64 0, .int .i64 0, .string (str []), .int .i64 0, .int .i64 0, .string (str []), .int .i64 0, .int .i64 0, .string (str []), .int .i64 0, .int .i64 0, .string (str []), .slice none 0 0, .int .u32 0] := by unfold Cmd.arr Edit.arr Patch.arr; rfl
theorem cmdK_size (K : Int) : (#[.int .i64 K, .int .i64 0, .int .i64 0, .int .i64 0, .int .u32 0, .int .u32 0, .int .i64 0, .int .i64 0, .string (str []), .int .i64 0, .int .i64 0, .string (str []), .int .i64 0, .int .i64 0, .string (str []), .int .i64 0, .int .i64 0, .string (str []), .int .i64 0, .int .i64 0, .string (str []), .int .i64 0, .int .i64 0, .string (str []), .int .i64 0, .int .i64 0, .string (str []), .int .i64 0, .int .i64 0, .string (str []), .int .i64 0, .int .i64 0, .int .i64 0, .int .i64 0, .int .i64 0, .int .u32 0, .int .u32 0, .int .i64 0, .int .i64 0, .string (str []), .int .i64 0, .int .i64 0, .string (str []), .int .i64 0, .int .i64 0, .string (str []), .int .i64 0, .int .i64 0, .string (str []), .int .i64 0, .int .i64 0, .string (str []), .int .i64 0, .int .i64 0, .string (str []), .int .i64 0, .int .i64 0, .string (str []), .int .i64 0, .int .i64 0, .string (str []), .slice none 0 0, .int .u32 0] : Array Value).size = 63 := rfl
theorem cmdK_one (K : Int) : (#[.int .i64 K, .int .i64 0, .int .i64 0, .int .i64 0, .int .u32 0, .int .u32 0, .int .i64 0, .int .i64 0, .string (str []), .int .i64 0, .int .i64 0, .string (str []), .int .i64 0, .int .i64 0, .string (str []), .int .i64 0, .int .i64 0, .string (str []), .int .i64 0, .int .i64 0, .string (str []), .int .i64 0, .int .i64 0, .string (str []), .int .i64 0, .int .i64 0, .string (str []), .int .i64 0, .int .i64 0, .string (str []), .int .i64 0, .int .i64 0, .int .i64 0, .int .i64 0, .int .i64 0, .int .u32 0, .int .u32 0, .int .i64 0, .int .i64 0, .string (str []), .int .i64 0, .int .i64 0, .string (str []), .int .i64 0, .int .i64 0, .string (str []), .int .i64 0, .int .i64 0, .string (str []), .int .i64 0, .int .i64 0, .string (str []), .int .i64 0, .int .i64 0, .string (str []), .int .i64 0, .int .i64 0, .string (str []), .int .i64 0, .int .i64 0, .string (str []), .slice none 0 0, .int .u32 0] : Array Value).all (·.oneCell') = true := by rw [← cmdK_arr]; exact Cmd.arr_ones ⟨rfl, rfl⟩
theorem cmdz_wf : Cmd.wf cmdz := ⟨rfl, rfl⟩
abbrev fnV (f : Nat) : Value := .func (.func f) #[] #[]
set_option maxHeartbeats 4000000 in
set_option maxRecDepth 10000 in
theorem cmdwire_Read_0 (p : Option Nat) (st : Rd) (w : World) (hT : Tab w) (hr : RdP w p st) (hk : cmK st = 0) : Calls Tryd.prog 28 #[ptr p] w (RetPC p (rdCmd' st) w (rdCmd st)) := by
  obtain ⟨x1, x2⟩ := cm_4 (st := st) (.inl hk)
  rw [hk] at x2
  have X1 := Lib.hid x1
  have X2 := Lib.hid x2
  have HK := Lib.hid (show rdN st 5 = 0 from hk)
  have hpT := Lib.hid (hr.tab hT)
  have HT := Lib.hid hT
  have htl := HT.out.lt
  have R0 := Lib.hid (show (rdCmd' st).e ≠ 0 → rdCmd st = cmdz from rdCmd_bad)
  have R1 := Lib.hid (show (rdCmd' st).e = 0 → rdCmd st = rdCmdRaw st from rdCmd_ok)
  have HRD := Lib.hid hr
  clear x1 x2 hk hr hT
  obtain ⟨SS, hSS⟩ : ∃ s, s = rdCmd' st := ⟨_, rfl⟩
  have HSS := Lib.hid hSS
  rw [← hSS]
  clear hSS
  have kneq : ∀ x, (binOp BinOp.neq 121 Value.nilFunc Value.nilFunc).run Tryd.prog x = .ok (.bool false) x := fun _ => by first | rfl | kernel_rfl
  cases hb : (SS.e != 0)
  all_goals
    go_enter Tryd.func28, Tryd.ntmps28
    go_wp2_with (with_reducible refine stop_makeMap 122 rfl ?_)
    refine Stop.mk (EnvP.go HRD.out ?_)
    intro w00 he00 hz00
    have E := Lib.hid (he00.as (cmdK_arr 0).symm)
    clear he00
    refine wpList_makeMapI rfl _ rfl ?_
    intro w0 hm0 hb0 hz0
    obtain ⟨m, hm⟩ : ∃ m, m = w00.heap.size := ⟨_, rfl⟩
    rw [← hm] at hm0 hz0 ⊢
    have M := Lib.hid hm0
    replace E := Lib.hid (E.out.below hb0)
    have HM := Lib.hid (show w.heap.size < m by omega)
    have hml : m < w0.heap.size := by omega
    clear hm hz00 hz0 hb0 hm0
    go_wp2_with (with_reducible refine stop_insert 122 _ _ _ rfl ?_)
    refine Stop.mk (wpList_insertI rfl _ _ _ _ rfl 3 121 Tryd.underlying122 Tryd.underlying3 m #[] 0 rfl 1 rfl (fnV 72) rfl M.out rfl ?_)
    intro w1 hm1 hk1
    replace M := Lib.hid (show MapAt w1 m #[⟨.int .i64 1, fnV 72, 0⟩] 1 from hm1)
    replace E := Lib.hid (E.out.other (Nat.le_of_lt HM.out) (by intro y hy; simp only [List.mem_singleton] at hy; subst hy; have := HM.out; show w.heap.size ≠ m; omega) hk1)
    have hz1 := hk1.size
    clear hm1 hk1
    go_wp2_with (with_reducible refine stop_insert 122 _ _ _ rfl ?_)
    refine Stop.mk (wpList_insertI rfl _ _ _ _ rfl 3 121 Tryd.underlying122 Tryd.underlying3 m #[⟨.int .i64 1, fnV 72, 0⟩] 1 rfl 2 rfl (fnV 74) rfl M.out rfl ?_)
    intro w2 hm2 hk2
    replace M := Lib.hid (show MapAt w2 m #[⟨.int .i64 1, fnV 72, 0⟩, ⟨.int .i64 2, fnV 74, 1⟩] 2 from hm2)
    replace E := Lib.hid (E.out.other (Nat.le_of_lt HM.out) (by intro y hy; simp only [List.mem_singleton] at hy; subst hy; have := HM.out; show w.heap.size ≠ m; omega) hk2)
    have hz2 := hk2.size
    clear hm2 hk2
    go_wp2_with (with_reducible refine stop_insert 122 _ _ _ rfl ?_)
    refine Stop.mk (wpList_insertI rfl _ _ _ _ rfl 3 121 Tryd.underlying122 Tryd.underlying3 m #[⟨.int .i64 1, fnV 72, 0⟩, ⟨.int .i64 2, fnV 74, 1⟩] 2 rfl 3 rfl (fnV 75) rfl M.out rfl ?_)
    intro w3 hm3 hk3
    replace M := Lib.hid (show MapAt w3 m #[⟨.int .i64 1, fnV 72, 0⟩, ⟨.int .i64 2, fnV 74, 1⟩, ⟨.int .i64 3, fnV 75, 2⟩] 3 from hm3)
    replace E := Lib.hid (E.out.other (Nat.le_of_lt HM.out) (by intro y hy; simp only [List.mem_singleton] at hy; subst hy; have := HM.out; show w.heap.size ≠ m; omega) hk3)
    have hz3 := hk3.size
    clear hm3 hk3
    go_wp2_with (with_reducible refine stop_insert 122 _ _ _ rfl ?_)
    refine Stop.mk (wpList_insertI rfl _ _ _ _ rfl 3 121 Tryd.underlying122 Tryd.underlying3 m #[⟨.int .i64 1, fnV 72, 0⟩, ⟨.int .i64 2, fnV 74, 1⟩, ⟨.int .i64 3, fnV 75, 2⟩] 3 rfl 4 rfl (fnV 76) rfl M.out rfl ?_)
    intro w4 hm4 hk4
    replace M := Lib.hid (show MapAt w4 m #[⟨.int .i64 1, fnV 72, 0⟩, ⟨.int .i64 2, fnV 74, 1⟩, ⟨.int .i64 3, fnV 75, 2⟩, ⟨.int .i64 4, fnV 76, 3⟩] 4 from hm4)
    replace E := Lib.hid (E.out.other (Nat.le_of_lt HM.out) (by intro y hy; simp only [List.mem_singleton] at hy; subst hy; have := HM.out; show w.heap.size ≠ m; omega) hk4)
    have hz4 := hk4.size
    clear hm4 hk4
    go_wp2_with (with_reducible refine stop_insert 122 _ _ _ rfl ?_)
    refine Stop.mk (wpList_insertI rfl _ _ _ _ rfl 3 121 Tryd.underlying122 Tryd.underlying3 m #[⟨.int .i64 1, fnV 72, 0⟩, ⟨.int .i64 2, fnV 74, 1⟩, ⟨.int .i64 3, fnV 75, 2⟩, ⟨.int .i64 4, fnV 76, 3⟩] 4 rfl 5 rfl (fnV 77) rfl M.out rfl ?_)
    intro w5 hm5 hk5
    replace M := Lib.hid (show MapAt w5 m #[⟨.int .i64 1, fnV 72, 0⟩, ⟨.int .i64 2, fnV 74, 1⟩, ⟨.int .i64 3, fnV 75, 2⟩, ⟨.int .i64 4, fnV 76, 3⟩, ⟨.int .i64 5, fnV 77, 4⟩] 5 from hm5)
    replace E := Lib.hid (E.out.other (Nat.le_of_lt HM.out) (by intro y hy; simp only [List.mem_singleton] at hy; subst hy; have := HM.out; show w.heap.size ≠ m; omega) hk5)
    have hz5 := hk5.size
    clear hm5 hk5
    go_wp2_with (fail)
    refine (c_cmdwire_above p st 5 _ E.out.rd).mono ?_
    rintro e w6 ⟨rfl, hr6, hk6⟩
    rw [HK.out]
    have hz6 := hk6.size
    replace M := Lib.hid (M.out.kept hk6 (by omega) (fun e => by have := E.out.low m e; have := HM.out; omega))
    replace E := Lib.hid ((E.out.call hr6 hk6).state (show _ = cmA st from rfl))
    have hml6 : m < w6.heap.size := by omega
    clear hr6 hk6 hz1 hz2 hz3 hz4 hz5 hz6 hml
    go_wp2_with (with_reducible refine stop_store 32 (.tmp 4) (.tmp 10) rfl rfl ?_)
    refine Stop.mk (wpList_storeB rfl _ _ _ rfl w6.heap.size _ rfl rfl _ (Blk.new _ _ _) strCm (cmdK_size 0) rfl (cmdK_one 0) ?_)
    intro w7 hb7 hk7
    have hz7 := hk7.size
    replace M := Lib.hid ((M.out.below ((Below.refl _ _).alloc (Nat.le_refl _) _) hml6).kept hk7 (by simp; omega) (by simp; omega))
    replace E := Lib.hid (((E.out.alloc 32 _).put0 hb7 hk7).as (cmdK_arr 0).symm)
    simp only [World.size_alloc] at hz7
    have HG := Lib.hid (show w.heap.size < w6.heap.size by have := HM.out; omega)
    obtain ⟨G, hG⟩ : ∃ g, g = w6.heap.size := ⟨_, rfl⟩
    have hGl : G < w7.heap.size := by omega
    have hmG : m ≠ G := by omega
    rw [← hG] at E HG ⊢
    clear hb7 hk7 hz7 hG
    have hw := Lib.hid (show Cmd.wf { cmdz with kind := 0 } from ⟨rfl, rfl⟩)
    have LOW := Lib.hid (show ∀ g, p = some g → g < G from fun g hg => Nat.lt_trans (E.out.low g hg) HG.out)
    have q0 := E.out.b0.cell (Cmd.get0 (c := { cmdz with kind := 0 }) (A := none) (n := 0))
    go_wp2_with (with_reducible refine stop_lookup 122 _ _ rfl ?_)
    clear q0
    refine Stop.mk (wpList_lookupN rfl _ _ _ rfl 3 121 Tryd.underlying122 Tryd.underlying3 .nilFunc (by kernel_rfl) m _ _ rfl 0 rfl M.out rfl ?_)
    clear M
    go_wp2_with (fail)
    replace E := Lib.hid (E.out.state (show _ = SS by rw [HSS.out, X1.out]; exact (cmA_err (cmK_zero HK.out)).2.symm))
    refine (c_octet_Err p _ _ E.out.rd).mono ?_
    rintro e w9 ⟨rfl, hr9, hk9⟩
    replace E := Lib.hid (E.out.call hr9 hk9)
    clear hr9 hk9
  · exact absurd (show SS.e = 0 by simpa using hb) (by rw [HSS.out, X1.out, (cmA_err (cmK_zero HK.out)).2]; exact cmK_zero HK.out)
  · have H9 := Lib.hid (R0.out (by rw [← HSS.out]; simpa using hb))
    go_wp2_with (with_reducible refine stop_store 32 (.tmp 2) (.tmp 23) rfl rfl ?_)
    refine Stop.mk (wpList_storeB rfl _ _ _ rfl w.heap.size _ rfl rfl _ E.out.b1 strCm (cmdK_size 0) (by rw [cmdK_size, Cmd.arr_size cmdz_wf]) (cmdK_one 0) ?_)
    intro w99 hb99 hk99
    replace E := Lib.hid (E.out.put1 hb99 hk99)
    clear hk99
    go_wp2_with (fail)
    refine bodyPost_ret (results_B rfl rfl hb99 strCm (cmdK_size 0)) rfl ⟨none, 0, ?_, ?_, E.out.rd, E.out.kept⟩
    · rw [H9.out, cmdK_arr 0]
    · rw [H9.out]; exact World.ownsRow_nil _ _ _ _
set_option maxHeartbeats 4000000 in
set_option maxRecDepth 10000 in
theorem cmdwire_Read_1 (p : Option Nat) (st : Rd) (w : World) (hT : Tab w) (hr : RdP w p st) (hk : cmK st = 1) : Calls Tryd.prog 28 #[ptr p] w (RetPC p (rdCmd' st) w (rdCmd st)) := by
  obtain ⟨x1, x2⟩ := cm_1 hk
  have X1 := Lib.hid x1
  have X2 := Lib.hid x2
  have HK := Lib.hid (show rdN st 5 = 1 from hk)
  have hpT := Lib.hid (hr.tab hT)
  have HT := Lib.hid hT
  have htl := HT.out.lt
  have R0 := Lib.hid (show (rdCmd' st).e ≠ 0 → rdCmd st = cmdz from rdCmd_bad)
  have R1 := Lib.hid (show (rdCmd' st).e = 0 → rdCmd st = rdCmdRaw st from rdCmd_ok)
  have HRD := Lib.hid hr
  clear x1 x2 hk hr hT
  obtain ⟨SS, hSS⟩ : ∃ s, s = rdCmd' st := ⟨_, rfl⟩
  have HSS := Lib.hid hSS
  rw [← hSS]
  clear hSS
  have kneq : ∀ x, (binOp BinOp.neq 121 (fnV 72) Value.nilFunc).run Tryd.prog x = .ok (.bool true) x := fun _ => by first | rfl | kernel_rfl
  cases hb : (SS.e != 0)
  all_goals
    go_enter Tryd.func28, Tryd.ntmps28
    go_wp2_with (with_reducible refine stop_makeMap 122 rfl ?_)
    refine Stop.mk (EnvP.go HRD.out ?_)
    intro w00 he00 hz00
    have E := Lib.hid (he00.as (cmdK_arr 0).symm)
    clear he00
    refine wpList_makeMapI rfl _ rfl ?_
    intro w0 hm0 hb0 hz0
    obtain ⟨m, hm⟩ : ∃ m, m = w00.heap.size := ⟨_, rfl⟩
    rw [← hm] at hm0 hz0 ⊢
    have M := Lib.hid hm0
    replace E := Lib.hid (E.out.below hb0)
    have HM := Lib.hid (show w.heap.size < m by omega)
    have hml : m < w0.heap.size := by omega
    clear hm hz00 hz0 hb0 hm0
    go_wp2_with (with_reducible refine stop_insert 122 _ _ _ rfl ?_)
    refine Stop.mk (wpList_insertI rfl _ _ _ _ rfl 3 121 Tryd.underlying122 Tryd.underlying3 m #[] 0 rfl 1 rfl (fnV 72) rfl M.out rfl ?_)
    intro w1 hm1 hk1
    replace M := Lib.hid (show MapAt w1 m #[⟨.int .i64 1, fnV 72, 0⟩] 1 from hm1)
    replace E := Lib.hid (E.out.other (Nat.le_of_lt HM.out) (by intro y hy; simp only [List.mem_singleton] at hy; subst hy; have := HM.out; show w.heap.size ≠ m; omega) hk1)
    have hz1 := hk1.size
    clear hm1 hk1
    go_wp2_with (with_reducible refine stop_insert 122 _ _ _ rfl ?_)
    refine Stop.mk (wpList_insertI rfl _ _ _ _ rfl 3 121 Tryd.underlying122 Tryd.underlying3 m #[⟨.int .i64 1, fnV 72, 0⟩] 1 rfl 2 rfl (fnV 74) rfl M.out rfl ?_)
    intro w2 hm2 hk2
    replace M := Lib.hid (show MapAt w2 m #[⟨.int .i64 1, fnV 72, 0⟩, ⟨.int .i64 2, fnV 74, 1⟩] 2 from hm2)
    replace E := Lib.hid (E.out.other (Nat.le_of_lt HM.out) (by intro y hy; simp only [List.mem_singleton] at hy; subst hy; have := HM.out; show w.heap.size ≠ m; omega) hk2)
    have hz2 := hk2.size
    clear hm2 hk2
    go_wp2_with (with_reducible refine stop_insert 122 _ _ _ rfl ?_)
    refine Stop.mk (wpList_insertI rfl _ _ _ _ rfl 3 121 Tryd.underlying122 Tryd.underlying3 m #[⟨.int .i64 1, fnV 72, 0⟩, ⟨.int .i64 2, fnV 74, 1⟩] 2 rfl 3 rfl (fnV 75) rfl M.out rfl ?_)
    intro w3 hm3 hk3
    replace M := Lib.hid (show MapAt w3 m #[⟨.int .i64 1, fnV 72, 0⟩, ⟨.int .i64 2, fnV 74, 1⟩, ⟨.int .i64 3, fnV 75, 2⟩] 3 from hm3)
    replace E := Lib.hid (E.out.other (Nat.le_of_lt HM.out) (by intro y hy; simp only [List.mem_singleton] at hy; subst hy; have := HM.out; show w.heap.size ≠ m; omega) hk3)
    have hz3 := hk3.size
    clear hm3 hk3
    go_wp2_with (with_reducible refine stop_insert 122 _ _ _ rfl ?_)
    refine Stop.mk (wpList_insertI rfl _ _ _ _ rfl 3 121 Tryd.underlying122 Tryd.underlying3 m #[⟨.int .i64 1, fnV 72, 0⟩, ⟨.int .i64 2, fnV 74, 1⟩, ⟨.int .i64 3, fnV 75, 2⟩] 3 rfl 4 rfl (fnV 76) rfl M.out rfl ?_)
    intro w4 hm4 hk4
    replace M := Lib.hid (show MapAt w4 m #[⟨.int .i64 1, fnV 72, 0⟩, ⟨.int .i64 2, fnV 74, 1⟩, ⟨.int .i64 3, fnV 75, 2⟩, ⟨.int .i64 4, fnV 76, 3⟩] 4 from hm4)
    replace E := Lib.hid (E.out.other (Nat.le_of_lt HM.out) (by intro y hy; simp only [List.mem_singleton] at hy; subst hy; have := HM.out; show w.heap.size ≠ m; omega) hk4)
    have hz4 := hk4.size
    clear hm4 hk4
    go_wp2_with (with_reducible refine stop_insert 122 _ _ _ rfl ?_)
    refine Stop.mk (wpList_insertI rfl _ _ _ _ rfl 3 121 Tryd.underlying122 Tryd.underlying3 m #[⟨.int .i64 1, fnV 72, 0⟩, ⟨.int .i64 2, fnV 74, 1⟩, ⟨.int .i64 3, fnV 75, 2⟩, ⟨.int .i64 4, fnV 76, 3⟩] 4 rfl 5 rfl (fnV 77) rfl M.out rfl ?_)
    intro w5 hm5 hk5
    replace M := Lib.hid (show MapAt w5 m #[⟨.int .i64 1, fnV 72, 0⟩, ⟨.int .i64 2, fnV 74, 1⟩, ⟨.int .i64 3, fnV 75, 2⟩, ⟨.int .i64 4, fnV 76, 3⟩, ⟨.int .i64 5, fnV 77, 4⟩] 5 from hm5)
    replace E := Lib.hid (E.out.other (Nat.le_of_lt HM.out) (by intro y hy; simp only [List.mem_singleton] at hy; subst hy; have := HM.out; show w.heap.size ≠ m; omega) hk5)
    have hz5 := hk5.size
    clear hm5 hk5
    go_wp2_with (fail)
    refine (c_cmdwire_above p st 5 _ E.out.rd).mono ?_
    rintro e w6 ⟨rfl, hr6, hk6⟩
    rw [HK.out]
    have hz6 := hk6.size
    replace M := Lib.hid (M.out.kept hk6 (by omega) (fun e => by have := E.out.low m e; have := HM.out; omega))
    replace E := Lib.hid ((E.out.call hr6 hk6).state (show _ = cmA st from rfl))
    have hml6 : m < w6.heap.size := by omega
    clear hr6 hk6 hz1 hz2 hz3 hz4 hz5 hz6 hml
    go_wp2_with (with_reducible refine stop_store 32 (.tmp 4) (.tmp 10) rfl rfl ?_)
    refine Stop.mk (wpList_storeB rfl _ _ _ rfl w6.heap.size _ rfl rfl _ (Blk.new _ _ _) strCm (cmdK_size 1) rfl (cmdK_one 1) ?_)
    intro w7 hb7 hk7
    have hz7 := hk7.size
    replace M := Lib.hid ((M.out.below ((Below.refl _ _).alloc (Nat.le_refl _) _) hml6).kept hk7 (by simp; omega) (by simp; omega))
    replace E := Lib.hid (((E.out.alloc 32 _).put0 hb7 hk7).as (cmdK_arr 1).symm)
    simp only [World.size_alloc] at hz7
    have HG := Lib.hid (show w.heap.size < w6.heap.size by have := HM.out; omega)
    obtain ⟨G, hG⟩ : ∃ g, g = w6.heap.size := ⟨_, rfl⟩
    have hGl : G < w7.heap.size := by omega
    have hmG : m ≠ G := by omega
    rw [← hG] at E HG ⊢
    clear hb7 hk7 hz7 hG
    have hw := Lib.hid (show Cmd.wf { cmdz with kind := 1 } from ⟨rfl, rfl⟩)
    have LOW := Lib.hid (show ∀ g, p = some g → g < G from fun g hg => Nat.lt_trans (E.out.low g hg) HG.out)
    have q0 := E.out.b0.cell (Cmd.get0 (c := { cmdz with kind := 1 }) (A := none) (n := 0))
    go_wp2_with (with_reducible refine stop_lookup 122 _ _ rfl ?_)
    clear q0
    refine Stop.mk (wpList_lookupI rfl _ _ _ rfl 3 121 Tryd.underlying122 Tryd.underlying3 m _ _ rfl 1 rfl M.out 0 (fnV 72) rfl ?_)
    clear M
    have HTw := Lib.hid (HT.out.kept E.out.kept hpT.out)
    go_wp2_with (fail)
    refine (c_cmdwire_Read1 p (cmA st) G { cmdz with kind := 1 } none 0 _ HTw.out hw.out E.out.rd E.out.b0 LOW.out).mono ?_
    rintro e w8 ⟨rfl, he⟩
    replace E := Lib.hid (((E.out.callQ he).state (show _ = SS by rw [HSS.out, X1.out] <;> rfl)).as (show _ = Cmd.arr (rdCmdRaw st) none 0 by rw [X2.out] <;> rfl))
    clear he HTw
    go_wp2_with (fail)
    refine (c_octet_Err p _ _ E.out.rd).mono ?_
    rintro e w9 ⟨rfl, hr9, hk9⟩
    replace E := Lib.hid (E.out.call hr9 hk9)
    clear hr9 hk9
  · have H9 := Lib.hid (R1.out (by rw [← HSS.out]; simpa using hb))
    have hwf := Lib.hid (show (rdCmdRaw st).wf by rw [← H9.out]; exact ⟨(rdCmd_len st).1, (rdCmd_len st).2⟩)
    go_wp2_with (with_reducible refine stop_load 32 (.tmp 4) rfl rfl ?_)
    refine Stop.mk (wpList_loadB rfl _ _ rfl G rfl _ E.out.b0 strCm (Cmd.arr_size hwf.out) ?_)
    go_wp2_with (with_reducible refine stop_store 32 (.tmp 2) (.tmp 24) rfl rfl ?_)
    refine Stop.mk (wpList_storeB rfl _ _ _ rfl w.heap.size _ rfl rfl _ E.out.b1 strCm (Cmd.arr_size hwf.out) (by rw [Cmd.arr_size hwf.out, Cmd.arr_size cmdz_wf]) (Cmd.arr_ones hwf.out) ?_)
    intro w99 hb99 hk99
    replace E := Lib.hid (E.out.put1 hb99 hk99)
    clear hk99
    go_wp2_with (fail)
    refine bodyPost_ret (results_B rfl rfl hb99 strCm (Cmd.arr_size hwf.out)) rfl ⟨none, 0, ?_, ?_, E.out.rd, E.out.kept⟩
    · rw [H9.out]
    · rw [H9.out]
      rw [X2.out]; exact World.ownsRow_nil _ _ _ _
  · have H9 := Lib.hid (R0.out (by rw [← HSS.out]; simpa using hb))
    go_wp2_with (with_reducible refine stop_store 32 (.tmp 2) (.tmp 23) rfl rfl ?_)
    refine Stop.mk (wpList_storeB rfl _ _ _ rfl w.heap.size _ rfl rfl _ E.out.b1 strCm (cmdK_size 0) (by rw [cmdK_size, Cmd.arr_size cmdz_wf]) (cmdK_one 0) ?_)
    intro w99 hb99 hk99
    replace E := Lib.hid (E.out.put1 hb99 hk99)
    clear hk99
    go_wp2_with (fail)
    refine bodyPost_ret (results_B rfl rfl hb99 strCm (cmdK_size 0)) rfl ⟨none, 0, ?_, ?_, E.out.rd, E.out.kept⟩
    · rw [H9.out, cmdK_arr 0]
    · rw [H9.out]; exact World.ownsRow_nil _ _ _ _
set_option maxHeartbeats 4000000 in
set_option maxRecDepth 10000 in
theorem cmdwire_Read_2 (p : Option Nat) (st : Rd) (w : World) (hT : Tab w) (hr : RdP w p st) (hk : cmK st = 2) : Calls Tryd.prog 28 #[ptr p] w (RetPC p (rdCmd' st) w (rdCmd st)) := by
  obtain ⟨x1, x2⟩ := cm_2 hk
  have X1 := Lib.hid x1
  have X2 := Lib.hid x2
  have HK := Lib.hid (show rdN st 5 = 2 from hk)
  have hpT := Lib.hid (hr.tab hT)
  have HT := Lib.hid hT
  have htl := HT.out.lt
  have R0 := Lib.hid (show (rdCmd' st).e ≠ 0 → rdCmd st = cmdz from rdCmd_bad)
  have R1 := Lib.hid (show (rdCmd' st).e = 0 → rdCmd st = rdCmdRaw st from rdCmd_ok)
  have HRD := Lib.hid hr
  clear x1 x2 hk hr hT
  obtain ⟨SS, hSS⟩ : ∃ s, s = rdCmd' st := ⟨_, rfl⟩
  have HSS := Lib.hid hSS
  rw [← hSS]
  clear hSS
  have kneq : ∀ x, (binOp BinOp.neq 121 (fnV 74) Value.nilFunc).run Tryd.prog x = .ok (.bool true) x := fun _ => by first | rfl | kernel_rfl
  cases hb : (SS.e != 0)
  all_goals
    go_enter Tryd.func28, Tryd.ntmps28
    go_wp2_with (with_reducible refine stop_makeMap 122 rfl ?_)
    refine Stop.mk (EnvP.go HRD.out ?_)
    intro w00 he00 hz00
    have E := Lib.hid (he00.as (cmdK_arr 0).symm)
    clear he00
    refine wpList_makeMapI rfl _ rfl ?_
    intro w0 hm0 hb0 hz0
    obtain ⟨m, hm⟩ : ∃ m, m = w00.heap.size := ⟨_, rfl⟩
    rw [← hm] at hm0 hz0 ⊢
    have M := Lib.hid hm0
    replace E := Lib.hid (E.out.below hb0)
    have HM := Lib.hid (show w.heap.size < m by omega)
    have hml : m < w0.heap.size := by omega
    clear hm hz00 hz0 hb0 hm0
    go_wp2_with (with_reducible refine stop_insert 122 _ _ _ rfl ?_)
    refine Stop.mk (wpList_insertI rfl _ _ _ _ rfl 3 121 Tryd.underlying122 Tryd.underlying3 m #[] 0 rfl 1 rfl (fnV 72) rfl M.out rfl ?_)
    intro w1 hm1 hk1
    replace M := Lib.hid (show MapAt w1 m #[⟨.int .i64 1, fnV 72, 0⟩] 1 from hm1)
    replace E := Lib.hid (E.out.other (Nat.le_of_lt HM.out) (by intro y hy; simp only [List.mem_singleton] at hy; subst hy; have := HM.out; show w.heap.size ≠ m; omega) hk1)
    have hz1 := hk1.size
    clear hm1 hk1
    go_wp2_with (with_reducible refine stop_insert 122 _ _ _ rfl ?_)
    refine Stop.mk (wpList_insertI rfl _ _ _ _ rfl 3 121 Tryd.underlying122 Tryd.underlying3 m #[⟨.int .i64 1, fnV 72, 0⟩] 1 rfl 2 rfl (fnV 74) rfl M.out rfl ?_)
    intro w2 hm2 hk2
    replace M := Lib.hid (show MapAt w2 m #[⟨.int .i64 1, fnV 72, 0⟩, ⟨.int .i64 2, fnV 74, 1⟩] 2 from hm2)
    replace E := Lib.hid (E.out.other (Nat.le_of_lt HM.out) (by intro y hy; simp only [List.mem_singleton] at hy; subst hy; have := HM.out; show w.heap.size ≠ m; omega) hk2)
    have hz2 := hk2.size
    clear hm2 hk2
    go_wp2_with (with_reducible refine stop_insert 122 _ _ _ rfl ?_)
    refine Stop.mk (wpList_insertI rfl _ _ _ _ rfl 3 121 Tryd.underlying122 Tryd.underlying3 m #[⟨.int .i64 1, fnV 72, 0⟩, ⟨.int .i64 2, fnV 74, 1⟩] 2 rfl 3 rfl (fnV 75) rfl M.out rfl ?_)
    intro w3 hm3 hk3
    replace M := Lib.hid (show MapAt w3 m #[⟨.int .i64 1, fnV 72, 0⟩, ⟨.int .i64 2, fnV 74, 1⟩, ⟨.int .i64 3, fnV 75, 2⟩] 3 from hm3)
    replace E := Lib.hid (E.out.other (Nat.le_of_lt HM.out) (by intro y hy; simp only [List.mem_singleton] at hy; subst hy; have := HM.out; show w.heap.size ≠ m; omega) hk3)
    have hz3 := hk3.size
    clear hm3 hk3
    go_wp2_with (with_reducible refine stop_insert 122 _ _ _ rfl ?_)
    refine Stop.mk (wpList_insertI rfl _ _ _ _ rfl 3 121 Tryd.underlying122 Tryd.underlying3 m #[⟨.int .i64 1, fnV 72, 0⟩, ⟨.int .i64 2, fnV 74, 1⟩, ⟨.int .i64 3, fnV 75, 2⟩] 3 rfl 4 rfl (fnV 76) rfl M.out rfl ?_)
    intro w4 hm4 hk4
    replace M := Lib.hid (show MapAt w4 m #[⟨.int .i64 1, fnV 72, 0⟩, ⟨.int .i64 2, fnV 74, 1⟩, ⟨.int .i64 3, fnV 75, 2⟩, ⟨.int .i64 4, fnV 76, 3⟩] 4 from hm4)
    replace E := Lib.hid (E.out.other (Nat.le_of_lt HM.out) (by intro y hy; simp only [List.mem_singleton] at hy; subst hy; have := HM.out; show w.heap.size ≠ m; omega) hk4)
    have hz4 := hk4.size
    clear hm4 hk4
    go_wp2_with (with_reducible refine stop_insert 122 _ _ _ rfl ?_)
    refine Stop.mk (wpList_insertI rfl _ _ _ _ rfl 3 121 Tryd.underlying122 Tryd.underlying3 m #[⟨.int .i64 1, fnV 72, 0⟩, ⟨.int .i64 2, fnV 74, 1⟩, ⟨.int .i64 3, fnV 75, 2⟩, ⟨.int .i64 4, fnV 76, 3⟩] 4 rfl 5 rfl (fnV 77) rfl M.out rfl ?_)
    intro w5 hm5 hk5
    replace M := Lib.hid (show MapAt w5 m #[⟨.int .i64 1, fnV 72, 0⟩, ⟨.int .i64 2, fnV 74, 1⟩, ⟨.int .i64 3, fnV 75, 2⟩, ⟨.int .i64 4, fnV 76, 3⟩, ⟨.int .i64 5, fnV 77, 4⟩] 5 from hm5)
    replace E := Lib.hid (E.out.other (Nat.le_of_lt HM.out) (by intro y hy; simp only [List.mem_singleton] at hy; subst hy; have := HM.out; show w.heap.size ≠ m; omega) hk5)
    have hz5 := hk5.size
    clear hm5 hk5
    go_wp2_with (fail)
    refine (c_cmdwire_above p st 5 _ E.out.rd).mono ?_
    rintro e w6 ⟨rfl, hr6, hk6⟩
    rw [HK.out]
    have hz6 := hk6.size
    replace M := Lib.hid (M.out.kept hk6 (by omega) (fun e => by have := E.out.low m e; have := HM.out; omega))
    replace E := Lib.hid ((E.out.call hr6 hk6).state (show _ = cmA st from rfl))
    have hml6 : m < w6.heap.size := by omega
    clear hr6 hk6 hz1 hz2 hz3 hz4 hz5 hz6 hml
    go_wp2_with (with_reducible refine stop_store 32 (.tmp 4) (.tmp 10) rfl rfl ?_)
    refine Stop.mk (wpList_storeB rfl _ _ _ rfl w6.heap.size _ rfl rfl _ (Blk.new _ _ _) strCm (cmdK_size 2) rfl (cmdK_one 2) ?_)
    intro w7 hb7 hk7
    have hz7 := hk7.size
    replace M := Lib.hid ((M.out.below ((Below.refl _ _).alloc (Nat.le_refl _) _) hml6).kept hk7 (by simp; omega) (by simp; omega))
    replace E := Lib.hid (((E.out.alloc 32 _).put0 hb7 hk7).as (cmdK_arr 2).symm)
    simp only [World.size_alloc] at hz7
    have HG := Lib.hid (show w.heap.size < w6.heap.size by have := HM.out; omega)
    obtain ⟨G, hG⟩ : ∃ g, g = w6.heap.size := ⟨_, rfl⟩
    have hGl : G < w7.heap.size := by omega
    have hmG : m ≠ G := by omega
    rw [← hG] at E HG ⊢
    clear hb7 hk7 hz7 hG
    have hw := Lib.hid (show Cmd.wf { cmdz with kind := 2 } from ⟨rfl, rfl⟩)
    have LOW := Lib.hid (show ∀ g, p = some g → g < G from fun g hg => Nat.lt_trans (E.out.low g hg) HG.out)
    have q0 := E.out.b0.cell (Cmd.get0 (c := { cmdz with kind := 2 }) (A := none) (n := 0))
    go_wp2_with (with_reducible refine stop_lookup 122 _ _ rfl ?_)
    clear q0
    refine Stop.mk (wpList_lookupI rfl _ _ _ rfl 3 121 Tryd.underlying122 Tryd.underlying3 m _ _ rfl 2 rfl M.out 1 (fnV 74) rfl ?_)
    clear M
    have HTw := Lib.hid (HT.out.kept E.out.kept hpT.out)
    go_wp2_with (fail)
    refine (c_cmdwire_write p (cmA st) G { cmdz with kind := 2 } none 0 _ HTw.out (by have := HG.out; omega) hw.out E.out.rd E.out.b0 LOW.out).mono ?_
    rintro e w8 ⟨rfl, he⟩
    replace E := Lib.hid (((E.out.callQ he).state (show _ = SS by rw [HSS.out, X1.out] <;> rfl)).as (show _ = Cmd.arr (rdCmdRaw st) none 0 by rw [X2.out] <;> rfl))
    clear he HTw
    go_wp2_with (fail)
    refine (c_octet_Err p _ _ E.out.rd).mono ?_
    rintro e w9 ⟨rfl, hr9, hk9⟩
    replace E := Lib.hid (E.out.call hr9 hk9)
    clear hr9 hk9
  · have H9 := Lib.hid (R1.out (by rw [← HSS.out]; simpa using hb))
    have hwf := Lib.hid (show (rdCmdRaw st).wf by rw [← H9.out]; exact ⟨(rdCmd_len st).1, (rdCmd_len st).2⟩)
    go_wp2_with (with_reducible refine stop_load 32 (.tmp 4) rfl rfl ?_)
    refine Stop.mk (wpList_loadB rfl _ _ rfl G rfl _ E.out.b0 strCm (Cmd.arr_size hwf.out) ?_)
    go_wp2_with (with_reducible refine stop_store 32 (.tmp 2) (.tmp 24) rfl rfl ?_)
    refine Stop.mk (wpList_storeB rfl _ _ _ rfl w.heap.size _ rfl rfl _ E.out.b1 strCm (Cmd.arr_size hwf.out) (by rw [Cmd.arr_size hwf.out, Cmd.arr_size cmdz_wf]) (Cmd.arr_ones hwf.out) ?_)
    intro w99 hb99 hk99
    replace E := Lib.hid (E.out.put1 hb99 hk99)
    clear hk99
    go_wp2_with (fail)
    refine bodyPost_ret (results_B rfl rfl hb99 strCm (Cmd.arr_size hwf.out)) rfl ⟨none, 0, ?_, ?_, E.out.rd, E.out.kept⟩
    · rw [H9.out]
    · rw [H9.out]
      rw [X2.out]; exact World.ownsRow_nil _ _ _ _
  · have H9 := Lib.hid (R0.out (by rw [← HSS.out]; simpa using hb))
    go_wp2_with (with_reducible refine stop_store 32 (.tmp 2) (.tmp 23) rfl rfl ?_)
    refine Stop.mk (wpList_storeB rfl _ _ _ rfl w.heap.size _ rfl rfl _ E.out.b1 strCm (cmdK_size 0) (by rw [cmdK_size, Cmd.arr_size cmdz_wf]) (cmdK_one 0) ?_)
    intro w99 hb99 hk99
    replace E := Lib.hid (E.out.put1 hb99 hk99)
    clear hk99
    go_wp2_with (fail)
    refine bodyPost_ret (results_B rfl rfl hb99 strCm (cmdK_size 0)) rfl ⟨none, 0, ?_, ?_, E.out.rd, E.out.kept⟩
    · rw [H9.out, cmdK_arr 0]
    · rw [H9.out]; exact World.ownsRow_nil _ _ _ _
set_option maxHeartbeats 4000000 in
set_option maxRecDepth 10000 in
theorem cmdwire_Read_3 (p : Option Nat) (st : Rd) (w : World) (hT : Tab w) (hr : RdP w p st) (hk : cmK st = 3) : Calls Tryd.prog 28 #[ptr p] w (RetPC p (rdCmd' st) w (rdCmd st)) := by
  obtain ⟨x1, x2⟩ := cm_3 hk
  have X1 := Lib.hid x1
  have X2 := Lib.hid x2
  have HK := Lib.hid (show rdN st 5 = 3 from hk)
  have hpT := Lib.hid (hr.tab hT)
  have HT := Lib.hid hT
  have htl := HT.out.lt
  have R0 := Lib.hid (show (rdCmd' st).e ≠ 0 → rdCmd st = cmdz from rdCmd_bad)
  have R1 := Lib.hid (show (rdCmd' st).e = 0 → rdCmd st = rdCmdRaw st from rdCmd_ok)
  have HRD := Lib.hid hr
  clear x1 x2 hk hr hT
  obtain ⟨SS, hSS⟩ : ∃ s, s = rdCmd' st := ⟨_, rfl⟩
  have HSS := Lib.hid hSS
  rw [← hSS]
  clear hSS
  have kneq : ∀ x, (binOp BinOp.neq 121 (fnV 75) Value.nilFunc).run Tryd.prog x = .ok (.bool true) x := fun _ => by first | rfl | kernel_rfl
  cases hb : (SS.e != 0)
  all_goals
    go_enter Tryd.func28, Tryd.ntmps28
    go_wp2_with (with_reducible refine stop_makeMap 122 rfl ?_)
    refine Stop.mk (EnvP.go HRD.out ?_)
    intro w00 he00 hz00
    have E := Lib.hid (he00.as (cmdK_arr 0).symm)
    clear he00
    refine wpList_makeMapI rfl _ rfl ?_
    intro w0 hm0 hb0 hz0
    obtain ⟨m, hm⟩ : ∃ m, m = w00.heap.size := ⟨_, rfl⟩
    rw [← hm] at hm0 hz0 ⊢
    have M := Lib.hid hm0
    replace E := Lib.hid (E.out.below hb0)
    have HM := Lib.hid (show w.heap.size < m by omega)
    have hml : m < w0.heap.size := by omega
    clear hm hz00 hz0 hb0 hm0
    go_wp2_with (with_reducible refine stop_insert 122 _ _ _ rfl ?_)
    refine Stop.mk (wpList_insertI rfl _ _ _ _ rfl 3 121 Tryd.underlying122 Tryd.underlying3 m #[] 0 rfl 1 rfl (fnV 72) rfl M.out rfl ?_)
    intro w1 hm1 hk1
    replace M := Lib.hid (show MapAt w1 m #[⟨.int .i64 1, fnV 72, 0⟩] 1 from hm1)
    replace E := Lib.hid (E.out.other (Nat.le_of_lt HM.out) (by intro y hy; simp only [List.mem_singleton] at hy; subst hy; have := HM.out; show w.heap.size ≠ m; omega) hk1)
    have hz1 := hk1.size
    clear hm1 hk1
    go_wp2_with (with_reducible refine stop_insert 122 _ _ _ rfl ?_)
    refine Stop.mk (wpList_insertI rfl _ _ _ _ rfl 3 121 Tryd.underlying122 Tryd.underlying3 m #[⟨.int .i64 1, fnV 72, 0⟩] 1 rfl 2 rfl (fnV 74) rfl M.out rfl ?_)
    intro w2 hm2 hk2
    replace M := Lib.hid (show MapAt w2 m #[⟨.int .i64 1, fnV 72, 0⟩, ⟨.int .i64 2, fnV 74, 1⟩] 2 from hm2)
    replace E := Lib.hid (E.out.other (Nat.le_of_lt HM.out) (by intro y hy; simp only [List.mem_singleton] at hy; subst hy; have := HM.out; show w.heap.size ≠ m; omega) hk2)
    have hz2 := hk2.size
    clear hm2 hk2
    go_wp2_with (with_reducible refine stop_insert 122 _ _ _ rfl ?_)
    refine Stop.mk (wpList_insertI rfl _ _ _ _ rfl 3 121 Tryd.underlying122 Tryd.underlying3 m #[⟨.int .i64 1, fnV 72, 0⟩, ⟨.int .i64 2, fnV 74, 1⟩] 2 rfl 3 rfl (fnV 75) rfl M.out rfl ?_)
    intro w3 hm3 hk3
    replace M := Lib.hid (show MapAt w3 m #[⟨.int .i64 1, fnV 72, 0⟩, ⟨.int .i64 2, fnV 74, 1⟩, ⟨.int .i64 3, fnV 75, 2⟩] 3 from hm3)
    replace E := Lib.hid (E.out.other (Nat.le_of_lt HM.out) (by intro y hy; simp only [List.mem_singleton] at hy; subst hy; have := HM.out; show w.heap.size ≠ m; omega) hk3)
    have hz3 := hk3.size
    clear hm3 hk3
    go_wp2_with (with_reducible refine stop_insert 122 _ _ _ rfl ?_)
    refine Stop.mk (wpList_insertI rfl _ _ _ _ rfl 3 121 Tryd.underlying122 Tryd.underlying3 m #[⟨.int .i64 1, fnV 72, 0⟩, ⟨.int .i64 2, fnV 74, 1⟩, ⟨.int .i64 3, fnV 75, 2⟩] 3 rfl 4 rfl (fnV 76) rfl M.out rfl ?_)
    intro w4 hm4 hk4
    replace M := Lib.hid (show MapAt w4 m #[⟨.int .i64 1, fnV 72, 0⟩, ⟨.int .i64 2, fnV 74, 1⟩, ⟨.int .i64 3, fnV 75, 2⟩, ⟨.int .i64 4, fnV 76, 3⟩] 4 from hm4)
    replace E := Lib.hid (E.out.other (Nat.le_of_lt HM.out) (by intro y hy; simp only [List.mem_singleton] at hy; subst hy; have := HM.out; show w.heap.size ≠ m; omega) hk4)
    have hz4 := hk4.size
    clear hm4 hk4
    go_wp2_with (with_reducible refine stop_insert 122 _ _ _ rfl ?_)
    refine Stop.mk (wpList_insertI rfl _ _ _ _ rfl 3 121 Tryd.underlying122 Tryd.underlying3 m #[⟨.int .i64 1, fnV 72, 0⟩, ⟨.int .i64 2, fnV 74, 1⟩, ⟨.int .i64 3, fnV 75, 2⟩, ⟨.int .i64 4, fnV 76, 3⟩] 4 rfl 5 rfl (fnV 77) rfl M.out rfl ?_)
    intro w5 hm5 hk5
    replace M := Lib.hid (show MapAt w5 m #[⟨.int .i64 1, fnV 72, 0⟩, ⟨.int .i64 2, fnV 74, 1⟩, ⟨.int .i64 3, fnV 75, 2⟩, ⟨.int .i64 4, fnV 76, 3⟩, ⟨.int .i64 5, fnV 77, 4⟩] 5 from hm5)
    replace E := Lib.hid (E.out.other (Nat.le_of_lt HM.out) (by intro y hy; simp only [List.mem_singleton] at hy; subst hy; have := HM.out; show w.heap.size ≠ m; omega) hk5)
    have hz5 := hk5.size
    clear hm5 hk5
    go_wp2_with (fail)
    refine (c_cmdwire_above p st 5 _ E.out.rd).mono ?_
    rintro e w6 ⟨rfl, hr6, hk6⟩
    rw [HK.out]
    have hz6 := hk6.size
    replace M := Lib.hid (M.out.kept hk6 (by omega) (fun e => by have := E.out.low m e; have := HM.out; omega))
    replace E := Lib.hid ((E.out.call hr6 hk6).state (show _ = cmA st from rfl))
    have hml6 : m < w6.heap.size := by omega
    clear hr6 hk6 hz1 hz2 hz3 hz4 hz5 hz6 hml
    go_wp2_with (with_reducible refine stop_store 32 (.tmp 4) (.tmp 10) rfl rfl ?_)
    refine Stop.mk (wpList_storeB rfl _ _ _ rfl w6.heap.size _ rfl rfl _ (Blk.new _ _ _) strCm (cmdK_size 3) rfl (cmdK_one 3) ?_)
    intro w7 hb7 hk7
    have hz7 := hk7.size
    replace M := Lib.hid ((M.out.below ((Below.refl _ _).alloc (Nat.le_refl _) _) hml6).kept hk7 (by simp; omega) (by simp; omega))
    replace E := Lib.hid (((E.out.alloc 32 _).put0 hb7 hk7).as (cmdK_arr 3).symm)
    simp only [World.size_alloc] at hz7
    have HG := Lib.hid (show w.heap.size < w6.heap.size by have := HM.out; omega)
    obtain ⟨G, hG⟩ : ∃ g, g = w6.heap.size := ⟨_, rfl⟩
    have hGl : G < w7.heap.size := by omega
    have hmG : m ≠ G := by omega
    rw [← hG] at E HG ⊢
    clear hb7 hk7 hz7 hG
    have hw := Lib.hid (show Cmd.wf { cmdz with kind := 3 } from ⟨rfl, rfl⟩)
    have LOW := Lib.hid (show ∀ g, p = some g → g < G from fun g hg => Nat.lt_trans (E.out.low g hg) HG.out)
    have q0 := E.out.b0.cell (Cmd.get0 (c := { cmdz with kind := 3 }) (A := none) (n := 0))
    go_wp2_with (with_reducible refine stop_lookup 122 _ _ rfl ?_)
    clear q0
    refine Stop.mk (wpList_lookupI rfl _ _ _ rfl 3 121 Tryd.underlying122 Tryd.underlying3 m _ _ rfl 3 rfl M.out 2 (fnV 75) rfl ?_)
    clear M
    have HTw := Lib.hid (HT.out.kept E.out.kept hpT.out)
    go_wp2_with (fail)
    refine (c_cmdwire_subscribe p (cmA st) G { cmdz with kind := 3 } none 0 _ hw.out E.out.rd E.out.b0 LOW.out).mono ?_
    rintro e w8 ⟨B, n, ⟨rfl, he⟩, own8⟩
    have O := Lib.hid (show w8.ownsRow w7.heap.size 132 5 (.slice B (rdCmdRaw st).f.length n) (rdCmdRaw st).f.length ((rdCmdRaw st).f.flatMap Node.cells) by rw [X2.out]; exact own8)
    replace E := Lib.hid (((E.out.callQ he).state (show _ = SS by rw [HSS.out, X1.out] <;> rfl)).as (show _ = Cmd.arr (rdCmdRaw st) B n by rw [X2.out] <;> rfl))
    clear he own8 HTw
    go_wp2_with (fail)
    refine (c_octet_Err p _ _ E.out.rd).mono ?_
    rintro e w9 ⟨rfl, hr9, hk9⟩
    replace O := Lib.hid (own_kept O.out hk9 (fun g hg => by have := LOW.out g hg; omega))
    replace E := Lib.hid (E.out.call hr9 hk9)
    clear hr9 hk9
  · have H9 := Lib.hid (R1.out (by rw [← HSS.out]; simpa using hb))
    have hwf := Lib.hid (show (rdCmdRaw st).wf by rw [← H9.out]; exact ⟨(rdCmd_len st).1, (rdCmd_len st).2⟩)
    go_wp2_with (with_reducible refine stop_load 32 (.tmp 4) rfl rfl ?_)
    refine Stop.mk (wpList_loadB rfl _ _ rfl G rfl _ E.out.b0 strCm (Cmd.arr_size hwf.out) ?_)
    go_wp2_with (with_reducible refine stop_store 32 (.tmp 2) (.tmp 24) rfl rfl ?_)
    refine Stop.mk (wpList_storeB rfl _ _ _ rfl w.heap.size _ rfl rfl _ E.out.b1 strCm (Cmd.arr_size hwf.out) (by rw [Cmd.arr_size hwf.out, Cmd.arr_size cmdz_wf]) (Cmd.arr_ones hwf.out) ?_)
    intro w99 hb99 hk99
    replace O := Lib.hid (own_kept O.out hk99 (fun g hg => by injection hg with hg; have := HG.out; omega))
    replace E := Lib.hid (E.out.put1 hb99 hk99)
    clear hk99
    go_wp2_with (fail)
    refine bodyPost_ret (results_B rfl rfl hb99 strCm (Cmd.arr_size hwf.out)) rfl ⟨B, n, ?_, ?_, E.out.rd, E.out.kept⟩
    · rw [H9.out]
    · rw [H9.out]
      exact own_base O.out (by have := HG.out; omega)
  · have H9 := Lib.hid (R0.out (by rw [← HSS.out]; simpa using hb))
    go_wp2_with (with_reducible refine stop_store 32 (.tmp 2) (.tmp 23) rfl rfl ?_)
    refine Stop.mk (wpList_storeB rfl _ _ _ rfl w.heap.size _ rfl rfl _ E.out.b1 strCm (cmdK_size 0) (by rw [cmdK_size, Cmd.arr_size cmdz_wf]) (cmdK_one 0) ?_)
    intro w99 hb99 hk99
    replace E := Lib.hid (E.out.put1 hb99 hk99)
    clear hk99
    go_wp2_with (fail)
    refine bodyPost_ret (results_B rfl rfl hb99 strCm (cmdK_size 0)) rfl ⟨none, 0, ?_, ?_, E.out.rd, E.out.kept⟩
    · rw [H9.out, cmdK_arr 0]
    · rw [H9.out]; exact World.ownsRow_nil _ _ _ _
set_option maxHeartbeats 4000000 in
set_option maxRecDepth 10000 in
theorem cmdwire_Read_4 (p : Option Nat) (st : Rd) (w : World) (hT : Tab w) (hr : RdP w p st) (hk : cmK st = 4) : Calls Tryd.prog 28 #[ptr p] w (RetPC p (rdCmd' st) w (rdCmd st)) := by
  obtain ⟨x1, x2⟩ := cm_4 (st := st) (.inr hk)
  rw [hk] at x2
  have X1 := Lib.hid x1
  have X2 := Lib.hid x2
  have HK := Lib.hid (show rdN st 5 = 4 from hk)
  have hpT := Lib.hid (hr.tab hT)
  have HT := Lib.hid hT
  have htl := HT.out.lt
  have R0 := Lib.hid (show (rdCmd' st).e ≠ 0 → rdCmd st = cmdz from rdCmd_bad)
  have R1 := Lib.hid (show (rdCmd' st).e = 0 → rdCmd st = rdCmdRaw st from rdCmd_ok)
  have HRD := Lib.hid hr
  clear x1 x2 hk hr hT
  obtain ⟨SS, hSS⟩ : ∃ s, s = rdCmd' st := ⟨_, rfl⟩
  have HSS := Lib.hid hSS
  rw [← hSS]
  clear hSS
  have kneq : ∀ x, (binOp BinOp.neq 121 (fnV 76) Value.nilFunc).run Tryd.prog x = .ok (.bool true) x := fun _ => by first | rfl | kernel_rfl
  cases hb : (SS.e != 0)
  all_goals
    go_enter Tryd.func28, Tryd.ntmps28
    go_wp2_with (with_reducible refine stop_makeMap 122 rfl ?_)
    refine Stop.mk (EnvP.go HRD.out ?_)
    intro w00 he00 hz00
    have E := Lib.hid (he00.as (cmdK_arr 0).symm)
    clear he00
    refine wpList_makeMapI rfl _ rfl ?_
    intro w0 hm0 hb0 hz0
    obtain ⟨m, hm⟩ : ∃ m, m = w00.heap.size := ⟨_, rfl⟩
    rw [← hm] at hm0 hz0 ⊢
    have M := Lib.hid hm0
    replace E := Lib.hid (E.out.below hb0)
    have HM := Lib.hid (show w.heap.size < m by omega)
    have hml : m < w0.heap.size := by omega
    clear hm hz00 hz0 hb0 hm0
    go_wp2_with (with_reducible refine stop_insert 122 _ _ _ rfl ?_)
    refine Stop.mk (wpList_insertI rfl _ _ _ _ rfl 3 121 Tryd.underlying122 Tryd.underlying3 m #[] 0 rfl 1 rfl (fnV 72) rfl M.out rfl ?_)
    intro w1 hm1 hk1
    replace M := Lib.hid (show MapAt w1 m #[⟨.int .i64 1, fnV 72, 0⟩] 1 from hm1)
    replace E := Lib.hid (E.out.other (Nat.le_of_lt HM.out) (by intro y hy; simp only [List.mem_singleton] at hy; subst hy; have := HM.out; show w.heap.size ≠ m; omega) hk1)
    have hz1 := hk1.size
    clear hm1 hk1
    go_wp2_with (with_reducible refine stop_insert 122 _ _ _ rfl ?_)
    refine Stop.mk (wpList_insertI rfl _ _ _ _ rfl 3 121 Tryd.underlying122 Tryd.underlying3 m #[⟨.int .i64 1, fnV 72, 0⟩] 1 rfl 2 rfl (fnV 74) rfl M.out rfl ?_)
    intro w2 hm2 hk2
    replace M := Lib.hid (show MapAt w2 m #[⟨.int .i64 1, fnV 72, 0⟩, ⟨.int .i64 2, fnV 74, 1⟩] 2 from hm2)
    replace E := Lib.hid (E.out.other (Nat.le_of_lt HM.out) (by intro y hy; simp only [List.mem_singleton] at hy; subst hy; have := HM.out; show w.heap.size ≠ m; omega) hk2)
    have hz2 := hk2.size
    clear hm2 hk2
    go_wp2_with (with_reducible refine stop_insert 122 _ _ _ rfl ?_)
    refine Stop.mk (wpList_insertI rfl _ _ _ _ rfl 3 121 Tryd.underlying122 Tryd.underlying3 m #[⟨.int .i64 1, fnV 72, 0⟩, ⟨.int .i64 2, fnV 74, 1⟩] 2 rfl 3 rfl (fnV 75) rfl M.out rfl ?_)
    intro w3 hm3 hk3
    replace M := Lib.hid (show MapAt w3 m #[⟨.int .i64 1, fnV 72, 0⟩, ⟨.int .i64 2, fnV 74, 1⟩, ⟨.int .i64 3, fnV 75, 2⟩] 3 from hm3)
    replace E := Lib.hid (E.out.other (Nat.le_of_lt HM.out) (by intro y hy; simp only [List.mem_singleton] at hy; subst hy; have := HM.out; show w.heap.size ≠ m; omega) hk3)
    have hz3 := hk3.size
    clear hm3 hk3
    go_wp2_with (with_reducible refine stop_insert 122 _ _ _ rfl ?_)
    refine Stop.mk (wpList_insertI rfl _ _ _ _ rfl 3 121 Tryd.underlying122 Tryd.underlying3 m #[⟨.int .i64 1, fnV 72, 0⟩, ⟨.int .i64 2, fnV 74, 1⟩, ⟨.int .i64 3, fnV 75, 2⟩] 3 rfl 4 rfl (fnV 76) rfl M.out rfl ?_)
    intro w4 hm4 hk4
    replace M := Lib.hid (show MapAt w4 m #[⟨.int .i64 1, fnV 72, 0⟩, ⟨.int .i64 2, fnV 74, 1⟩, ⟨.int .i64 3, fnV 75, 2⟩, ⟨.int .i64 4, fnV 76, 3⟩] 4 from hm4)
    replace E := Lib.hid (E.out.other (Nat.le_of_lt HM.out) (by intro y hy; simp only [List.mem_singleton] at hy; subst hy; have := HM.out; show w.heap.size ≠ m; omega) hk4)
    have hz4 := hk4.size
    clear hm4 hk4
    go_wp2_with (with_reducible refine stop_insert 122 _ _ _ rfl ?_)
    refine Stop.mk (wpList_insertI rfl _ _ _ _ rfl 3 121 Tryd.underlying122 Tryd.underlying3 m #[⟨.int .i64 1, fnV 72, 0⟩, ⟨.int .i64 2, fnV 74, 1⟩, ⟨.int .i64 3, fnV 75, 2⟩, ⟨.int .i64 4, fnV 76, 3⟩] 4 rfl 5 rfl (fnV 77) rfl M.out rfl ?_)
    intro w5 hm5 hk5
    replace M := Lib.hid (show MapAt w5 m #[⟨.int .i64 1, fnV 72, 0⟩, ⟨.int .i64 2, fnV 74, 1⟩, ⟨.int .i64 3, fnV 75, 2⟩, ⟨.int .i64 4, fnV 76, 3⟩, ⟨.int .i64 5, fnV 77, 4⟩] 5 from hm5)
    replace E := Lib.hid (E.out.other (Nat.le_of_lt HM.out) (by intro y hy; simp only [List.mem_singleton] at hy; subst hy; have := HM.out; show w.heap.size ≠ m; omega) hk5)
    have hz5 := hk5.size
    clear hm5 hk5
    go_wp2_with (fail)
    refine (c_cmdwire_above p st 5 _ E.out.rd).mono ?_
    rintro e w6 ⟨rfl, hr6, hk6⟩
    rw [HK.out]
    have hz6 := hk6.size
    replace M := Lib.hid (M.out.kept hk6 (by omega) (fun e => by have := E.out.low m e; have := HM.out; omega))
    replace E := Lib.hid ((E.out.call hr6 hk6).state (show _ = cmA st from rfl))
    have hml6 : m < w6.heap.size := by omega
    clear hr6 hk6 hz1 hz2 hz3 hz4 hz5 hz6 hml
    go_wp2_with (with_reducible refine stop_store 32 (.tmp 4) (.tmp 10) rfl rfl ?_)
    refine Stop.mk (wpList_storeB rfl _ _ _ rfl w6.heap.size _ rfl rfl _ (Blk.new _ _ _) strCm (cmdK_size 4) rfl (cmdK_one 4) ?_)
    intro w7 hb7 hk7
    have hz7 := hk7.size
    replace M := Lib.hid ((M.out.below ((Below.refl _ _).alloc (Nat.le_refl _) _) hml6).kept hk7 (by simp; omega) (by simp; omega))
    replace E := Lib.hid (((E.out.alloc 32 _).put0 hb7 hk7).as (cmdK_arr 4).symm)
    simp only [World.size_alloc] at hz7
    have HG := Lib.hid (show w.heap.size < w6.heap.size by have := HM.out; omega)
    obtain ⟨G, hG⟩ : ∃ g, g = w6.heap.size := ⟨_, rfl⟩
    have hGl : G < w7.heap.size := by omega
    have hmG : m ≠ G := by omega
    rw [← hG] at E HG ⊢
    clear hb7 hk7 hz7 hG
    have hw := Lib.hid (show Cmd.wf { cmdz with kind := 4 } from ⟨rfl, rfl⟩)
    have LOW := Lib.hid (show ∀ g, p = some g → g < G from fun g hg => Nat.lt_trans (E.out.low g hg) HG.out)
    have q0 := E.out.b0.cell (Cmd.get0 (c := { cmdz with kind := 4 }) (A := none) (n := 0))
    go_wp2_with (with_reducible refine stop_lookup 122 _ _ rfl ?_)
    clear q0
    refine Stop.mk (wpList_lookupI rfl _ _ _ rfl 3 121 Tryd.underlying122 Tryd.underlying3 m _ _ rfl 4 rfl M.out 3 (fnV 76) rfl ?_)
    clear M
    have HTw := Lib.hid (HT.out.kept E.out.kept hpT.out)
    go_wp2_with (fail)
    refine (c_cmdwire_request p (cmA st) G { cmdz with kind := 4 } none 0 _ hw.out E.out.rd E.out.b0 LOW.out).mono ?_
    rintro e w8 ⟨rfl, he⟩
    replace E := Lib.hid (((E.out.callQ he).state (show _ = SS by rw [HSS.out, X1.out] <;> rfl)).as (show _ = Cmd.arr (rdCmdRaw st) none 0 by rw [X2.out] <;> rfl))
    clear he HTw
    go_wp2_with (fail)
    refine (c_octet_Err p _ _ E.out.rd).mono ?_
    rintro e w9 ⟨rfl, hr9, hk9⟩
    replace E := Lib.hid (E.out.call hr9 hk9)
    clear hr9 hk9
  · have H9 := Lib.hid (R1.out (by rw [← HSS.out]; simpa using hb))
    have hwf := Lib.hid (show (rdCmdRaw st).wf by rw [← H9.out]; exact ⟨(rdCmd_len st).1, (rdCmd_len st).2⟩)
    go_wp2_with (with_reducible refine stop_load 32 (.tmp 4) rfl rfl ?_)
    refine Stop.mk (wpList_loadB rfl _ _ rfl G rfl _ E.out.b0 strCm (Cmd.arr_size hwf.out) ?_)
    go_wp2_with (with_reducible refine stop_store 32 (.tmp 2) (.tmp 24) rfl rfl ?_)
    refine Stop.mk (wpList_storeB rfl _ _ _ rfl w.heap.size _ rfl rfl _ E.out.b1 strCm (Cmd.arr_size hwf.out) (by rw [Cmd.arr_size hwf.out, Cmd.arr_size cmdz_wf]) (Cmd.arr_ones hwf.out) ?_)
    intro w99 hb99 hk99
    replace E := Lib.hid (E.out.put1 hb99 hk99)
    clear hk99
    go_wp2_with (fail)
    refine bodyPost_ret (results_B rfl rfl hb99 strCm (Cmd.arr_size hwf.out)) rfl ⟨none, 0, ?_, ?_, E.out.rd, E.out.kept⟩
    · rw [H9.out]
    · rw [H9.out]
      rw [X2.out]; exact World.ownsRow_nil _ _ _ _
  · have H9 := Lib.hid (R0.out (by rw [← HSS.out]; simpa using hb))
    go_wp2_with (with_reducible refine stop_store 32 (.tmp 2) (.tmp 23) rfl rfl ?_)
    refine Stop.mk (wpList_storeB rfl _ _ _ rfl w.heap.size _ rfl rfl _ E.out.b1 strCm (cmdK_size 0) (by rw [cmdK_size, Cmd.arr_size cmdz_wf]) (cmdK_one 0) ?_)
    intro w99 hb99 hk99
    replace E := Lib.hid (E.out.put1 hb99 hk99)
    clear hk99
    go_wp2_with (fail)
    refine bodyPost_ret (results_B rfl rfl hb99 strCm (cmdK_size 0)) rfl ⟨none, 0, ?_, ?_, E.out.rd, E.out.kept⟩
    · rw [H9.out, cmdK_arr 0]
    · rw [H9.out]; exact World.ownsRow_nil _ _ _ _
set_option maxHeartbeats 4000000 in
set_option maxRecDepth 10000 in
theorem cmdwire_Read_5 (p : Option Nat) (st : Rd) (w : World) (hT : Tab w) (hr : RdP w p st) (hk : cmK st = 5) : Calls Tryd.prog 28 #[ptr p] w (RetPC p (rdCmd' st) w (rdCmd st)) := by
  obtain ⟨x1, x2⟩ := cm_5 hk
  have X1 := Lib.hid x1
  have X2 := Lib.hid x2
  have HK := Lib.hid (show rdN st 5 = 5 from hk)
  have hpT := Lib.hid (hr.tab hT)
  have HT := Lib.hid hT
  have htl := HT.out.lt
  have R0 := Lib.hid (show (rdCmd' st).e ≠ 0 → rdCmd st = cmdz from rdCmd_bad)
  have R1 := Lib.hid (show (rdCmd' st).e = 0 → rdCmd st = rdCmdRaw st from rdCmd_ok)
  have HRD := Lib.hid hr
  clear x1 x2 hk hr hT
  obtain ⟨SS, hSS⟩ : ∃ s, s = rdCmd' st := ⟨_, rfl⟩
  have HSS := Lib.hid hSS
  rw [← hSS]
  clear hSS
  have kneq : ∀ x, (binOp BinOp.neq 121 (fnV 77) Value.nilFunc).run Tryd.prog x = .ok (.bool true) x := fun _ => by first | rfl | kernel_rfl
  cases hb : (SS.e != 0)
  all_goals
    go_enter Tryd.func28, Tryd.ntmps28
    go_wp2_with (with_reducible refine stop_makeMap 122 rfl ?_)
    refine Stop.mk (EnvP.go HRD.out ?_)
    intro w00 he00 hz00
    have E := Lib.hid (he00.as (cmdK_arr 0).symm)
    clear he00
    refine wpList_makeMapI rfl _ rfl ?_
    intro w0 hm0 hb0 hz0
    obtain ⟨m, hm⟩ : ∃ m, m = w00.heap.size := ⟨_, rfl⟩
    rw [← hm] at hm0 hz0 ⊢
    have M := Lib.hid hm0
    replace E := Lib.hid (E.out.below hb0)
    have HM := Lib.hid (show w.heap.size < m by omega)
    have hml : m < w0.heap.size := by omega
    clear hm hz00 hz0 hb0 hm0
    go_wp2_with (with_reducible refine stop_insert 122 _ _ _ rfl ?_)
    refine Stop.mk (wpList_insertI rfl _ _ _ _ rfl 3 121 Tryd.underlying122 Tryd.underlying3 m #[] 0 rfl 1 rfl (fnV 72) rfl M.out rfl ?_)
    intro w1 hm1 hk1
    replace M := Lib.hid (show MapAt w1 m #[⟨.int .i64 1, fnV 72, 0⟩] 1 from hm1)
    replace E := Lib.hid (E.out.other (Nat.le_of_lt HM.out) (by intro y hy; simp only [List.mem_singleton] at hy; subst hy; have := HM.out; show w.heap.size ≠ m; omega) hk1)
    have hz1 := hk1.size
    clear hm1 hk1
    go_wp2_with (with_reducible refine stop_insert 122 _ _ _ rfl ?_)
    refine Stop.mk (wpList_insertI rfl _ _ _ _ rfl 3 121 Tryd.underlying122 Tryd.underlying3 m #[⟨.int .i64 1, fnV 72, 0⟩] 1 rfl 2 rfl (fnV 74) rfl M.out rfl ?_)
    intro w2 hm2 hk2
    replace M := Lib.hid (show MapAt w2 m #[⟨.int .i64 1, fnV 72, 0⟩, ⟨.int .i64 2, fnV 74, 1⟩] 2 from hm2)
    replace E := Lib.hid (E.out.other (Nat.le_of_lt HM.out) (by intro y hy; simp only [List.mem_singleton] at hy; subst hy; have := HM.out; show w.heap.size ≠ m; omega) hk2)
    have hz2 := hk2.size
    clear hm2 hk2
    go_wp2_with (with_reducible refine stop_insert 122 _ _ _ rfl ?_)
    refine Stop.mk (wpList_insertI rfl _ _ _ _ rfl 3 121 Tryd.underlying122 Tryd.underlying3 m #[⟨.int .i64 1, fnV 72, 0⟩, ⟨.int .i64 2, fnV 74, 1⟩] 2 rfl 3 rfl (fnV 75) rfl M.out rfl ?_)
    intro w3 hm3 hk3
    replace M := Lib.hid (show MapAt w3 m #[⟨.int .i64 1, fnV 72, 0⟩, ⟨.int .i64 2, fnV 74, 1⟩, ⟨.int .i64 3, fnV 75, 2⟩] 3 from hm3)
    replace E := Lib.hid (E.out.other (Nat.le_of_lt HM.out) (by intro y hy; simp only [List.mem_singleton] at hy; subst hy; have := HM.out; show w.heap.size ≠ m; omega) hk3)
    have hz3 := hk3.size
    clear hm3 hk3
    go_wp2_with (with_reducible refine stop_insert 122 _ _ _ rfl ?_)
    refine Stop.mk (wpList_insertI rfl _ _ _ _ rfl 3 121 Tryd.underlying122 Tryd.underlying3 m #[⟨.int .i64 1, fnV 72, 0⟩, ⟨.int .i64 2, fnV 74, 1⟩, ⟨.int .i64 3, fnV 75, 2⟩] 3 rfl 4 rfl (fnV 76) rfl M.out rfl ?_)
    intro w4 hm4 hk4
    replace M := Lib.hid (show MapAt w4 m #[⟨.int .i64 1, fnV 72, 0⟩, ⟨.int .i64 2, fnV 74, 1⟩, ⟨.int .i64 3, fnV 75, 2⟩, ⟨.int .i64 4, fnV 76, 3⟩] 4 from hm4)
    replace E := Lib.hid (E.out.other (Nat.le_of_lt HM.out) (by intro y hy; simp only [List.mem_singleton] at hy; subst hy; have := HM.out; show w.heap.size ≠ m; omega) hk4)
    have hz4 := hk4.size
    clear hm4 hk4
    go_wp2_with (with_reducible refine stop_insert 122 _ _ _ rfl ?_)
    refine Stop.mk (wpList_insertI rfl _ _ _ _ rfl 3 121 Tryd.underlying122 Tryd.underlying3 m #[⟨.int .i64 1, fnV 72, 0⟩, ⟨.int .i64 2, fnV 74, 1⟩, ⟨.int .i64 3, fnV 75, 2⟩, ⟨.int .i64 4, fnV 76, 3⟩] 4 rfl 5 rfl (fnV 77) rfl M.out rfl ?_)
    intro w5 hm5 hk5
    replace M := Lib.hid (show MapAt w5 m #[⟨.int .i64 1, fnV 72, 0⟩, ⟨.int .i64 2, fnV 74, 1⟩, ⟨.int .i64 3, fnV 75, 2⟩, ⟨.int .i64 4, fnV 76, 3⟩, ⟨.int .i64 5, fnV 77, 4⟩] 5 from hm5)
    replace E := Lib.hid (E.out.other (Nat.le_of_lt HM.out) (by intro y hy; simp only [List.mem_singleton] at hy; subst hy; have := HM.out; show w.heap.size ≠ m; omega) hk5)
    have hz5 := hk5.size
    clear hm5 hk5
    go_wp2_with (fail)
    refine (c_cmdwire_above p st 5 _ E.out.rd).mono ?_
    rintro e w6 ⟨rfl, hr6, hk6⟩
    rw [HK.out]
    have hz6 := hk6.size
    replace M := Lib.hid (M.out.kept hk6 (by omega) (fun e => by have := E.out.low m e; have := HM.out; omega))
    replace E := Lib.hid ((E.out.call hr6 hk6).state (show _ = cmA st from rfl))
    have hml6 : m < w6.heap.size := by omega
    clear hr6 hk6 hz1 hz2 hz3 hz4 hz5 hz6 hml
    go_wp2_with (with_reducible refine stop_store 32 (.tmp 4) (.tmp 10) rfl rfl ?_)
    refine Stop.mk (wpList_storeB rfl _ _ _ rfl w6.heap.size _ rfl rfl _ (Blk.new _ _ _) strCm (cmdK_size 5) rfl (cmdK_one 5) ?_)
    intro w7 hb7 hk7
    have hz7 := hk7.size
    replace M := Lib.hid ((M.out.below ((Below.refl _ _).alloc (Nat.le_refl _) _) hml6).kept hk7 (by simp; omega) (by simp; omega))
    replace E := Lib.hid (((E.out.alloc 32 _).put0 hb7 hk7).as (cmdK_arr 5).symm)
    simp only [World.size_alloc] at hz7
    have HG := Lib.hid (show w.heap.size < w6.heap.size by have := HM.out; omega)
    obtain ⟨G, hG⟩ : ∃ g, g = w6.heap.size := ⟨_, rfl⟩
    have hGl : G < w7.heap.size := by omega
    have hmG : m ≠ G := by omega
    rw [← hG] at E HG ⊢
    clear hb7 hk7 hz7 hG
    have hw := Lib.hid (show Cmd.wf { cmdz with kind := 5 } from ⟨rfl, rfl⟩)
    have LOW := Lib.hid (show ∀ g, p = some g → g < G from fun g hg => Nat.lt_trans (E.out.low g hg) HG.out)
    have q0 := E.out.b0.cell (Cmd.get0 (c := { cmdz with kind := 5 }) (A := none) (n := 0))
    go_wp2_with (with_reducible refine stop_lookup 122 _ _ rfl ?_)
    clear q0
    refine Stop.mk (wpList_lookupI rfl _ _ _ rfl 3 121 Tryd.underlying122 Tryd.underlying3 m _ _ rfl 5 rfl M.out 4 (fnV 77) rfl ?_)
    clear M
    have HTw := Lib.hid (HT.out.kept E.out.kept hpT.out)
    go_wp2_with (fail)
    refine (c_cmdwire_Read2 p (cmA st) G { cmdz with kind := 5 } none 0 _ hw.out E.out.rd E.out.b0 LOW.out).mono ?_
    rintro e w8 ⟨rfl, he⟩
    replace E := Lib.hid (((E.out.callQ he).state (show _ = SS by rw [HSS.out, X1.out] <;> rfl)).as (show _ = Cmd.arr (rdCmdRaw st) none 0 by rw [X2.out] <;> rfl))
    clear he HTw
    go_wp2_with (fail)
    refine (c_octet_Err p _ _ E.out.rd).mono ?_
    rintro e w9 ⟨rfl, hr9, hk9⟩
    replace E := Lib.hid (E.out.call hr9 hk9)
    clear hr9 hk9
  · have H9 := Lib.hid (R1.out (by rw [← HSS.out]; simpa using hb))
    have hwf := Lib.hid (show (rdCmdRaw st).wf by rw [← H9.out]; exact ⟨(rdCmd_len st).1, (rdCmd_len st).2⟩)
    go_wp2_with (with_reducible refine stop_load 32 (.tmp 4) rfl rfl ?_)
    refine Stop.mk (wpList_loadB rfl _ _ rfl G rfl _ E.out.b0 strCm (Cmd.arr_size hwf.out) ?_)
    go_wp2_with (with_reducible refine stop_store 32 (.tmp 2) (.tmp 24) rfl rfl ?_)
    refine Stop.mk (wpList_storeB rfl _ _ _ rfl w.heap.size _ rfl rfl _ E.out.b1 strCm (Cmd.arr_size hwf.out) (by rw [Cmd.arr_size hwf.out, Cmd.arr_size cmdz_wf]) (Cmd.arr_ones hwf.out) ?_)
    intro w99 hb99 hk99
    replace E := Lib.hid (E.out.put1 hb99 hk99)
    clear hk99
    go_wp2_with (fail)
    refine bodyPost_ret (results_B rfl rfl hb99 strCm (Cmd.arr_size hwf.out)) rfl ⟨none, 0, ?_, ?_, E.out.rd, E.out.kept⟩
    · rw [H9.out]
    · rw [H9.out]
      rw [X2.out]; exact World.ownsRow_nil _ _ _ _
  · have H9 := Lib.hid (R0.out (by rw [← HSS.out]; simpa using hb))
    go_wp2_with (with_reducible refine stop_store 32 (.tmp 2) (.tmp 23) rfl rfl ?_)
    refine Stop.mk (wpList_storeB rfl _ _ _ rfl w.heap.size _ rfl rfl _ E.out.b1 strCm (cmdK_size 0) (by rw [cmdK_size, Cmd.arr_size cmdz_wf]) (cmdK_one 0) ?_)
    intro w99 hb99 hk99
    replace E := Lib.hid (E.out.put1 hb99 hk99)
    clear hk99
    go_wp2_with (fail)
    refine bodyPost_ret (results_B rfl rfl hb99 strCm (cmdK_size 0)) rfl ⟨none, 0, ?_, ?_, E.out.rd, E.out.kept⟩
    · rw [H9.out, cmdK_arr 0]
    · rw [H9.out]; exact World.ownsRow_nil _ _ _ _
theorem c_cmdwire_Read (p : Option Nat) (st : Rd) (w : World) (hT : Tab w) (hr : RdP w p st) : Calls Tryd.prog 28 #[ptr p] w (RetPC p (rdCmd' st) w (rdCmd st)) := by
  rcases cmK_cases st with h | h | h | h | h | h
  · exact cmdwire_Read_0 p st w hT hr h
  · exact cmdwire_Read_1 p st w hT hr h
  · exact cmdwire_Read_2 p st w hT hr h
  · exact cmdwire_Read_3 p st w hT hr h
  · exact cmdwire_Read_4 p st w hT hr h
  · exact cmdwire_Read_5 p st w hT hr h
end Go.Proofs.YtjhndilflcigiaaDoor
