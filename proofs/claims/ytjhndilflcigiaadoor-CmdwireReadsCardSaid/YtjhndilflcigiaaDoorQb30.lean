/-
  The walk of the reference's Read of commands. (Printed by gen33j.py.)
-/
import Derived.Test.YtjhndilflcigiaaDoorQb29
import Derived.Test.YtjhndilflcigiaaDoorRows
import Derived.WalkKit
import Derived.WalkSpells
import Derived.WalkLawsBesides
import Derived.Lib.Hide
import Derived.Deep.QuietTactic
import Derived.BigQuiet
import Derived.Maps.AppendAt
import Derived.WalkSmall
import Derived.ProofKit
import Derived.OpenShut
import Derived.JoinedCond
import Derived.Deep.Slices
import Derived.Deep.Fields
import Derived.Carry
import Derived.Deep.AppendSrc
import Derived.Lib.AppendStr
import Derived.Laws.BytesArg
import Derived.Test.YtjhndilflcigiaaDoorProg
import Derived.Shelf.Spec.TrailingZeros
import Derived.RangeFuncNested
import Derived.RangeFuncBound
import Derived.RangeFuncCalls
import Derived.RangeFuncLeaves
import Derived.Shelf.Abstract
import Derived.Shelf.RegionOpen
import Derived.OwnWalkIn
import Derived.TacticsInMore
import Derived.LoopNIn
import Derived.LoopIn
import Derived.Test.YtjhndilflcigiaaDoorTie
import Derived.Lib.LaidTab
import Derived.LaidMore
import Derived.SevenTiedAt
import Derived.Test.YtjhndilflcigiaaDoorCards
import Derived.Laws.Tables
import Derived.Laws.Rows
import Derived.Maps.Own
import Derived.Deep.CutBlock
import Derived.Deep.DeepCutAuto
import Derived.ChangeKeysEq
import Derived.Laws.StructEq
import Derived.Laws.CopyOwn
import Derived.Outline
import Derived.IntWalk
import Derived.Lib.EndianBits
import Derived.Lib.AppendZeros
import Derived.WalkMore
import Derived.StillTail
import Derived.Deep.Quiet
namespace Go.Proofs.YtjhndilflcigiaaDoor
open Go.RowKit

/-- The end of a call of the reference's that reads a command. -/
def RetRC (p : Nat) (st' : Rd) (w : World) (c : Cmd) (e : Ending) (w' : World) : Prop :=
  ∃ A n, e = .returned (.agg (c.arr A n)) ∧ w'.ownsRow w.heap.size 132 5 (.slice A c.f.length n) c.f.length (c.f.flatMap Node.cells) ∧ RdR w' p st' ∧ Kept (some p) w.heap.size w w'
/-- The first block of a call's own is made. -/
theorem EnvR.go {P : Program} {ops : Array Oper} {l : List Oper} {a : Act} {Q : Exit → Act → World → Prop} {t : TypeId} {p : Nat} {S : Rd} {w : World} {cs : Array Value} (r : RdR w p S) (h : ∀ w', EnvR p S w w' [(w.heap.size, cs)] → w'.heap.size = w.heap.size + 1 → wpList P ops Q l a w') :
    wpList P ops Q l a (w.alloc (.cells cs t)) := h _ ((EnvR.start r).alloc t cs) (by simp)
theorem stop_call {P : Program} {w : World} {ops : Array Oper} {rest : List Oper} {o : Oper} {a : Act} {Q : Exit → Act → World → Prop} (c : Call) (_ : o.op = .call c) (h : Stop (wpList P ops Q (o :: rest) a w)) : wpList P ops Q (o :: rest) a w := h
set_option maxHeartbeats 4000000 in
set_option maxRecDepth 10000 in
theorem ref33_Read_0 (p : Nat) (st : Rd) (w : World) (hr : RdR w p st) (hk : cmK st = 0) : Calls Tryd.prog 29 #[.pointer (some ⟨p, 0, none⟩)] w (RetRC p (rdCmd' st) w (rdCmd st)) := by
  obtain ⟨x1, x2⟩ := cm_4 (st := st) (.inl hk)
  rw [hk] at x2
  obtain ⟨D, hD⟩ : ∃ D, D = rdN (cmA st) 5 := ⟨_, rfl⟩
  have HD := Lib.hid hD
  obtain ⟨R, hR⟩ : ∃ D, D = rdN (cmB st) 1099511627776 := ⟨_, rfl⟩
  have HR := Lib.hid hR
  rw [← hD, ← hR] at x2
  have X1 := Lib.hid x1
  have X2 := Lib.hid x2
  have HK := Lib.hid (show rdN st 5 = 0 from hk)
  have R0 := Lib.hid (show (rdCmd' st).e ≠ 0 → rdCmd st = cmdz from rdCmd_bad)
  have R1 := Lib.hid (show (rdCmd' st).e = 0 → rdCmd st = rdCmdRaw st from rdCmd_ok)
  have HRD := Lib.hid hr
  clear x1 x2 hk hr hD hR
  obtain ⟨SS, hSS⟩ : ∃ s, s = rdCmd' st := ⟨_, rfl⟩
  have HSS := Lib.hid hSS
  rw [← hSS]
  clear hSS
  have j1 : (((0 : Int)) == 1) = false := rfl
  have j2 : (((0 : Int)) == 2) = false := rfl
  have j3 : (((0 : Int)) == 3) = false := rfl
  have j4 : (((0 : Int)) == 4) = false := rfl
  have j5 : (((0 : Int)) == 5) = false := rfl
  cases hb : (SS.e != 0)
  all_goals
    go_enter Tryd.func29, Tryd.ntmps29
    go_wp2_with (with_reducible refine stop_call _ rfl ?_)
    refine Stop.mk (EnvR.go HRD.out ?_)
    intro w00 he00 hz00
    have E := Lib.hid (he00.as (cmdK_arr 0).symm)
    clear he00
    go_wp2_with (fail)
    refine (c_ref19_Above p st 5 _ E.out.rd).mono ?_
    rintro e w6 ⟨rfl, hr6, hk6⟩
    rw [HK.out]
    have hz6 := hk6.size
    replace E := Lib.hid ((E.out.call hr6 hk6).state (show _ = cmA st from rfl))
    clear hr6 hk6
    go_wp2_with (with_reducible refine stop_store 32 (.tmp 3) (.tmp 6) rfl rfl ?_)
    refine Stop.mk (wpList_storeB rfl _ _ _ rfl w6.heap.size _ rfl rfl _ (Blk.new _ _ _) strCm (cmdK_size 0) rfl (cmdK_one 0) ?_)
    intro w7 hb7 hk7
    have hz7 := hk7.size
    replace E := Lib.hid (((E.out.alloc 32 _).put0 hb7 hk7).as (cmdK_arr 0).symm)
    simp only [World.size_alloc] at hz7
    have HG := Lib.hid (show w.heap.size < w6.heap.size by omega)
    obtain ⟨G, hG⟩ : ∃ g, g = w6.heap.size := ⟨_, rfl⟩
    have HGl := Lib.hid (show G < w7.heap.size by omega)
    rw [← hG] at E HG ⊢
    clear hb7 hk7 hz7 hG hz6 hz00
    have hw := Lib.hid (show Cmd.wf { cmdz with kind := 0 } from ⟨rfl, rfl⟩)
    obtain ⟨q0, q1, q2, q3, q4, q5, q6, q7⟩ := cmd_cells hw.out E.out.b0
    have ff := fun i => E.out.b0.frozen i
    have hlt1 := E.out.b0.lt
    have uc := E.out.rd.1.cell (i := 1) rfl
    go_wp2_with (fail)
    clear q0 q1 q2 q3 q4 q5 q6 q7 ff hlt1 uc
    refine (c_ref01_RNum p (cmA st) 5 _ E.out.rd).mono ?_
    rintro e w9 ⟨rfl, hr9, hk9⟩
    rw [← HD.out]
    replace E := Lib.hid ((E.out.call hr9 hk9).state (show _ = cmB st from rfl))
    clear hr9 hk9
    obtain ⟨q0, q1, q2, q3, q4, q5, q6, q7⟩ := cmd_cells hw.out E.out.b0
    have ff := fun i => E.out.b0.frozen i
    have hlt1 := E.out.b0.lt
    have uc := E.out.rd.1.cell (i := 1) rfl
    go_wp2_with (fail)
    clear q0 q1 q2 q3 q4 q5 q6 q7 ff hlt1 uc
    replace E := Lib.hid ((E.out.store0 30 (.int .i64 D)).as (show _ = Cmd.arr { cmdz with kind := 0, dev := D } none 0 by have := Cmd.setI hw.out (A := none) (n := 0) 0 (by omega) D; simpa using this))
    replace hw := Lib.hid (show Cmd.wf { cmdz with kind := 0, dev := D } from ⟨hw.out.e, hw.out.p⟩)
    refine (c_ref19_Above p (cmB st) 1099511627776 _ E.out.rd).mono ?_
    rintro e w10 ⟨rfl, hr10, hk10⟩
    rw [← HR.out]
    replace E := Lib.hid ((E.out.call hr10 hk10).state (show _ = cmC st from rfl))
    clear hr10 hk10
    obtain ⟨q0, q1, q2, q3, q4, q5, q6, q7⟩ := cmd_cells hw.out E.out.b0
    have ff := fun i => E.out.b0.frozen i
    have hlt1 := E.out.b0.lt
    have uc := E.out.rd.1.cell (i := 1) rfl
    go_wp2_with (with_reducible refine stop_loadG 43 (.tmp 49) rfl ?_)
    clear q0 q1 q2 q3 q4 q5 q6 q7 ff hlt1 uc
    replace E := Lib.hid ((E.out.store0 31 (.int .i64 R)).as (show _ = Cmd.arr { cmdz with kind := 0, dev := D, req := R } none 0 by have := Cmd.setI hw.out (A := none) (n := 0) 1 (by omega) R; simpa using this))
    replace hw := Lib.hid (show Cmd.wf { cmdz with kind := 0, dev := D, req := R } from ⟨hw.out.e, hw.out.p⟩)
    refine Stop.mk ?_
    replace E := Lib.hid (E.out.state (show _ = SS by rw [HSS.out, X1.out] <;> rfl))
    obtain ⟨q0, q1, q2, q3, q4, q5, q6, q7⟩ := cmd_cells hw.out E.out.b0
    have ff := fun i => E.out.b0.frozen i
    have hlt1 := E.out.b0.lt
    have uc := E.out.rd.1.cell (i := 1) rfl
  · exact absurd (show SS.e = 0 by simpa using hb) (by rw [HSS.out, X1.out, (cmA_err (cmK_zero HK.out)).2]; exact cmK_zero HK.out)
  · have H9 := Lib.hid (R0.out (by rw [← HSS.out]; simpa using hb))
    go_wp2_with (with_reducible refine stop_store 32 (.tmp 2) (.tmp 52) rfl rfl ?_)
    clear q0 q1 q2 q3 q4 q5 q6 q7 ff hlt1 uc
    refine Stop.mk (wpList_storeB rfl _ _ _ rfl w.heap.size _ rfl rfl _ E.out.b1 strCm (cmdK_size 0) (by rw [cmdK_size, Cmd.arr_size cmdz_wf]) (cmdK_one 0) ?_)
    intro w99 hb99 hk99
    replace E := Lib.hid (E.out.put1 hb99 hk99)
    clear hk99
    go_wp2_with (fail)
    refine bodyPost_ret (results_B rfl rfl hb99 strCm (cmdK_size 0)) rfl ⟨none, 0, ?_, ?_, E.out.rd, E.out.kept⟩
    · rw [H9.out, cmdK_arr 0]
    · rw [H9.out]; exact World.ownsRow_nil _ _ _ _
set_option maxHeartbeats 4000000 in
set_option maxRecDepth 10000 in
theorem ref33_Read_1 (p : Nat) (st : Rd) (w : World) (hr : RdR w p st) (hk : cmK st = 1) : Calls Tryd.prog 29 #[.pointer (some ⟨p, 0, none⟩)] w (RetRC p (rdCmd' st) w (rdCmd st)) := by
  obtain ⟨x1, x2⟩ := cm_1 hk
  obtain ⟨F, hF⟩ : ∃ D, D = rdEdit (cmA st) := ⟨_, rfl⟩
  have HF := Lib.hid hF
  rw [← hF] at x2
  have HL := Lib.hid (show F.p.f.length = 8 by rw [hF]; exact rdEdit_len _)
  have X1 := Lib.hid x1
  have X2 := Lib.hid x2
  have HK := Lib.hid (show rdN st 5 = 1 from hk)
  have R0 := Lib.hid (show (rdCmd' st).e ≠ 0 → rdCmd st = cmdz from rdCmd_bad)
  have R1 := Lib.hid (show (rdCmd' st).e = 0 → rdCmd st = rdCmdRaw st from rdCmd_ok)
  have HRD := Lib.hid hr
  clear x1 x2 hk hr hF
  obtain ⟨SS, hSS⟩ : ∃ s, s = rdCmd' st := ⟨_, rfl⟩
  have HSS := Lib.hid hSS
  rw [← hSS]
  clear hSS
  have j1 : (((1 : Int)) == 1) = true := rfl
  have j2 : (((1 : Int)) == 2) = false := rfl
  have j3 : (((1 : Int)) == 3) = false := rfl
  have j4 : (((1 : Int)) == 4) = false := rfl
  have j5 : (((1 : Int)) == 5) = false := rfl
  cases hb : (SS.e != 0)
  all_goals
    go_enter Tryd.func29, Tryd.ntmps29
    go_wp2_with (with_reducible refine stop_call _ rfl ?_)
    refine Stop.mk (EnvR.go HRD.out ?_)
    intro w00 he00 hz00
    have E := Lib.hid (he00.as (cmdK_arr 0).symm)
    clear he00
    go_wp2_with (fail)
    refine (c_ref19_Above p st 5 _ E.out.rd).mono ?_
    rintro e w6 ⟨rfl, hr6, hk6⟩
    rw [HK.out]
    have hz6 := hk6.size
    replace E := Lib.hid ((E.out.call hr6 hk6).state (show _ = cmA st from rfl))
    clear hr6 hk6
    go_wp2_with (with_reducible refine stop_store 32 (.tmp 3) (.tmp 6) rfl rfl ?_)
    refine Stop.mk (wpList_storeB rfl _ _ _ rfl w6.heap.size _ rfl rfl _ (Blk.new _ _ _) strCm (cmdK_size 1) rfl (cmdK_one 1) ?_)
    intro w7 hb7 hk7
    have hz7 := hk7.size
    replace E := Lib.hid (((E.out.alloc 32 _).put0 hb7 hk7).as (cmdK_arr 1).symm)
    simp only [World.size_alloc] at hz7
    have HG := Lib.hid (show w.heap.size < w6.heap.size by omega)
    obtain ⟨G, hG⟩ : ∃ g, g = w6.heap.size := ⟨_, rfl⟩
    have HGl := Lib.hid (show G < w7.heap.size by omega)
    rw [← hG] at E HG ⊢
    clear hb7 hk7 hz7 hG hz6 hz00
    have hw := Lib.hid (show Cmd.wf { cmdz with kind := 1 } from ⟨rfl, rfl⟩)
    obtain ⟨q0, q1, q2, q3, q4, q5, q6, q7⟩ := cmd_cells hw.out E.out.b0
    have ff := fun i => E.out.b0.frozen i
    have hlt1 := E.out.b0.lt
    have uc := E.out.rd.1.cell (i := 1) rfl
    go_wp2_with (fail)
    clear q0 q1 q2 q3 q4 q5 q6 q7 ff hlt1 uc
    refine (c_ref19_Read p (cmA st) _ E.out.rd).mono ?_
    rintro e w9 ⟨rfl, hr9, hk9⟩
    rw [← HF.out]
    replace E := Lib.hid ((E.out.call hr9 hk9).state (show _ = rdEdit' (cmA st) from rfl))
    clear hr9 hk9
    go_wp2_with (with_reducible refine stop_store 29 (.tmp 19) (.tmp 18) rfl rfl ?_)
    refine Stop.mk (wpList_storeAt rfl _ _ _ rfl G 1 F.arr rfl rfl _ E.out.b0 strE (Edit.sizeE HL.out) (by rw [Edit.sizeE HL.out, Cmd.arr_size hw.out]; decide) (Edit.arr_one _) ?_)
    intro w20 hb20 hk20
    replace E := Lib.hid (E.out.put0 (show Blk w20 G (Cmd.arr { cmdz with kind := 1, e := F } none 0) by rw [← Cmd.putE hw.out F HL.out]; exact hb20) hk20)
    replace hw := Lib.hid (show Cmd.wf { cmdz with kind := 1, e := F } from ⟨HL.out, hw.out.p⟩)
    clear hb20 hk20
    replace E := Lib.hid (E.out.state (show _ = SS by rw [HSS.out, X1.out] <;> rfl))
    obtain ⟨q0, q1, q2, q3, q4, q5, q6, q7⟩ := cmd_cells hw.out E.out.b0
    have ff := fun i => E.out.b0.frozen i
    have hlt1 := E.out.b0.lt
    have uc := E.out.rd.1.cell (i := 1) rfl
  · have H9 := Lib.hid (R1.out (by rw [← HSS.out]; simpa using hb))
    have X3 := Lib.hid (show rdCmd st = { cmdz with kind := 1, e := F } by rw [H9.out, X2.out])
    go_wp2_with (with_reducible refine stop_load 32 (.tmp 3) rfl rfl ?_)
    clear q0 q1 q2 q3 q4 q5 q6 q7 ff hlt1 uc
    refine Stop.mk (wpList_loadB rfl _ _ rfl G rfl _ E.out.b0 strCm (Cmd.arr_size hw.out) ?_)
    go_wp2_with (with_reducible refine stop_store 32 (.tmp 2) (.tmp 53) rfl rfl ?_)
    refine Stop.mk (wpList_storeB rfl _ _ _ rfl w.heap.size _ rfl rfl _ E.out.b1 strCm (Cmd.arr_size hw.out) (by rw [Cmd.arr_size hw.out, Cmd.arr_size cmdz_wf]) (Cmd.arr_ones hw.out) ?_)
    intro w99 hb99 hk99
    replace E := Lib.hid (E.out.put1 hb99 hk99)
    clear hk99
    go_wp2_with (fail)
    refine bodyPost_ret (results_B rfl rfl hb99 strCm (Cmd.arr_size hw.out)) rfl ⟨none, 0, ?_, ?_, E.out.rd, E.out.kept⟩
    · rw [X3.out]
    · rw [X3.out]
      exact World.ownsRow_nil _ _ _ _
  · have H9 := Lib.hid (R0.out (by rw [← HSS.out]; simpa using hb))
    go_wp2_with (with_reducible refine stop_store 32 (.tmp 2) (.tmp 52) rfl rfl ?_)
    clear q0 q1 q2 q3 q4 q5 q6 q7 ff hlt1 uc
    refine Stop.mk (wpList_storeB rfl _ _ _ rfl w.heap.size _ rfl rfl _ E.out.b1 strCm (cmdK_size 0) (by rw [cmdK_size, Cmd.arr_size cmdz_wf]) (cmdK_one 0) ?_)
    intro w99 hb99 hk99
    replace E := Lib.hid (E.out.put1 hb99 hk99)
    clear hk99
    go_wp2_with (fail)
    refine bodyPost_ret (results_B rfl rfl hb99 strCm (cmdK_size 0)) rfl ⟨none, 0, ?_, ?_, E.out.rd, E.out.kept⟩
    · rw [H9.out, cmdK_arr 0]
    · rw [H9.out]; exact World.ownsRow_nil _ _ _ _
set_option maxHeartbeats 4000000 in
set_option maxRecDepth 10000 in
theorem ref33_Read_2 (p : Nat) (st : Rd) (w : World) (hr : RdR w p st) (hk : cmK st = 2) : Calls Tryd.prog 29 #[.pointer (some ⟨p, 0, none⟩)] w (RetRC p (rdCmd' st) w (rdCmd st)) := by
  obtain ⟨x1, x2⟩ := cm_2 hk
  obtain ⟨D, hD⟩ : ∃ D, D = rdN (cmA st) 5 := ⟨_, rfl⟩
  have HD := Lib.hid hD
  obtain ⟨R, hR⟩ : ∃ D, D = rdN (cmB st) 1099511627776 := ⟨_, rfl⟩
  have HR := Lib.hid hR
  obtain ⟨I, hI⟩ : ∃ D, D = rdN (cmC st) 1073741823 := ⟨_, rfl⟩
  have HI := Lib.hid hI
  obtain ⟨V, hV⟩ : ∃ D, D = rdN (cmD st) 1099511627776 := ⟨_, rfl⟩
  have HV := Lib.hid hV
  obtain ⟨F, hF⟩ : ∃ D, D = rdPatch (cmE st) := ⟨_, rfl⟩
  have HF := Lib.hid hF
  rw [← hD, ← hR, ← hI, ← hV, ← hF] at x2
  have HL := Lib.hid (show F.f.length = 8 by rw [hF]; exact rdPatch_len _)
  have X1 := Lib.hid x1
  have X2 := Lib.hid x2
  have HK := Lib.hid (show rdN st 5 = 2 from hk)
  have R0 := Lib.hid (show (rdCmd' st).e ≠ 0 → rdCmd st = cmdz from rdCmd_bad)
  have R1 := Lib.hid (show (rdCmd' st).e = 0 → rdCmd st = rdCmdRaw st from rdCmd_ok)
  have HRD := Lib.hid hr
  clear x1 x2 hk hr hD hR hI hV hF
  obtain ⟨SS, hSS⟩ : ∃ s, s = rdCmd' st := ⟨_, rfl⟩
  have HSS := Lib.hid hSS
  rw [← hSS]
  clear hSS
  have j1 : (((2 : Int)) == 1) = false := rfl
  have j2 : (((2 : Int)) == 2) = true := rfl
  have j3 : (((2 : Int)) == 3) = false := rfl
  have j4 : (((2 : Int)) == 4) = false := rfl
  have j5 : (((2 : Int)) == 5) = false := rfl
  cases hb : (SS.e != 0)
  all_goals
    go_enter Tryd.func29, Tryd.ntmps29
    go_wp2_with (with_reducible refine stop_call _ rfl ?_)
    refine Stop.mk (EnvR.go HRD.out ?_)
    intro w00 he00 hz00
    have E := Lib.hid (he00.as (cmdK_arr 0).symm)
    clear he00
    go_wp2_with (fail)
    refine (c_ref19_Above p st 5 _ E.out.rd).mono ?_
    rintro e w6 ⟨rfl, hr6, hk6⟩
    rw [HK.out]
    have hz6 := hk6.size
    replace E := Lib.hid ((E.out.call hr6 hk6).state (show _ = cmA st from rfl))
    clear hr6 hk6
    go_wp2_with (with_reducible refine stop_store 32 (.tmp 3) (.tmp 6) rfl rfl ?_)
    refine Stop.mk (wpList_storeB rfl _ _ _ rfl w6.heap.size _ rfl rfl _ (Blk.new _ _ _) strCm (cmdK_size 2) rfl (cmdK_one 2) ?_)
    intro w7 hb7 hk7
    have hz7 := hk7.size
    replace E := Lib.hid (((E.out.alloc 32 _).put0 hb7 hk7).as (cmdK_arr 2).symm)
    simp only [World.size_alloc] at hz7
    have HG := Lib.hid (show w.heap.size < w6.heap.size by omega)
    obtain ⟨G, hG⟩ : ∃ g, g = w6.heap.size := ⟨_, rfl⟩
    have HGl := Lib.hid (show G < w7.heap.size by omega)
    rw [← hG] at E HG ⊢
    clear hb7 hk7 hz7 hG hz6 hz00
    have hw := Lib.hid (show Cmd.wf { cmdz with kind := 2 } from ⟨rfl, rfl⟩)
    obtain ⟨q0, q1, q2, q3, q4, q5, q6, q7⟩ := cmd_cells hw.out E.out.b0
    have ff := fun i => E.out.b0.frozen i
    have hlt1 := E.out.b0.lt
    have uc := E.out.rd.1.cell (i := 1) rfl
    go_wp2_with (fail)
    clear q0 q1 q2 q3 q4 q5 q6 q7 ff hlt1 uc
    refine (c_ref01_RNum p (cmA st) 5 _ E.out.rd).mono ?_
    rintro e w9 ⟨rfl, hr9, hk9⟩
    rw [← HD.out]
    replace E := Lib.hid ((E.out.call hr9 hk9).state (show _ = cmB st from rfl))
    clear hr9 hk9
    obtain ⟨q0, q1, q2, q3, q4, q5, q6, q7⟩ := cmd_cells hw.out E.out.b0
    have ff := fun i => E.out.b0.frozen i
    have hlt1 := E.out.b0.lt
    have uc := E.out.rd.1.cell (i := 1) rfl
    go_wp2_with (fail)
    clear q0 q1 q2 q3 q4 q5 q6 q7 ff hlt1 uc
    replace E := Lib.hid ((E.out.store0 30 (.int .i64 D)).as (show _ = Cmd.arr { cmdz with kind := 2, dev := D } none 0 by have := Cmd.setI hw.out (A := none) (n := 0) 0 (by omega) D; simpa using this))
    replace hw := Lib.hid (show Cmd.wf { cmdz with kind := 2, dev := D } from ⟨hw.out.e, hw.out.p⟩)
    refine (c_ref19_Above p (cmB st) 1099511627776 _ E.out.rd).mono ?_
    rintro e w10 ⟨rfl, hr10, hk10⟩
    rw [← HR.out]
    replace E := Lib.hid ((E.out.call hr10 hk10).state (show _ = cmC st from rfl))
    clear hr10 hk10
    obtain ⟨q0, q1, q2, q3, q4, q5, q6, q7⟩ := cmd_cells hw.out E.out.b0
    have ff := fun i => E.out.b0.frozen i
    have hlt1 := E.out.b0.lt
    have uc := E.out.rd.1.cell (i := 1) rfl
    go_wp2_with (fail)
    clear q0 q1 q2 q3 q4 q5 q6 q7 ff hlt1 uc
    replace E := Lib.hid ((E.out.store0 31 (.int .i64 R)).as (show _ = Cmd.arr { cmdz with kind := 2, dev := D, req := R } none 0 by have := Cmd.setI hw.out (A := none) (n := 0) 1 (by omega) R; simpa using this))
    replace hw := Lib.hid (show Cmd.wf { cmdz with kind := 2, dev := D, req := R } from ⟨hw.out.e, hw.out.p⟩)
    refine (c_ref19_Above p (cmC st) 1073741823 _ E.out.rd).mono ?_
    rintro e w11 ⟨rfl, hr11, hk11⟩
    rw [← HI.out]
    replace E := Lib.hid ((E.out.call hr11 hk11).state (show _ = cmD st from rfl))
    clear hr11 hk11
    obtain ⟨q0, q1, q2, q3, q4, q5, q6, q7⟩ := cmd_cells hw.out E.out.b0
    have ff := fun i => E.out.b0.frozen i
    have hlt1 := E.out.b0.lt
    have uc := E.out.rd.1.cell (i := 1) rfl
    go_wp2_with (fail)
    clear q0 q1 q2 q3 q4 q5 q6 q7 ff hlt1 uc
    replace E := Lib.hid ((E.out.store0 32 (.int .i64 I)).as (show _ = Cmd.arr { cmdz with kind := 2, dev := D, req := R, id := I } none 0 by have := Cmd.setI hw.out (A := none) (n := 0) 2 (by omega) I; simpa using this))
    replace hw := Lib.hid (show Cmd.wf { cmdz with kind := 2, dev := D, req := R, id := I } from ⟨hw.out.e, hw.out.p⟩)
    refine (c_ref19_Above p (cmD st) 1099511627776 _ E.out.rd).mono ?_
    rintro e w12 ⟨rfl, hr12, hk12⟩
    rw [← HV.out]
    replace E := Lib.hid ((E.out.call hr12 hk12).state (show _ = cmE st from rfl))
    clear hr12 hk12
    obtain ⟨q0, q1, q2, q3, q4, q5, q6, q7⟩ := cmd_cells hw.out E.out.b0
    have ff := fun i => E.out.b0.frozen i
    have hlt1 := E.out.b0.lt
    have uc := E.out.rd.1.cell (i := 1) rfl
    go_wp2_with (fail)
    clear q0 q1 q2 q3 q4 q5 q6 q7 ff hlt1 uc
    replace E := Lib.hid ((E.out.store0 33 (.int .i64 V)).as (show _ = Cmd.arr { cmdz with kind := 2, dev := D, req := R, id := I, base := V } none 0 by have := Cmd.setI hw.out (A := none) (n := 0) 3 (by omega) V; simpa using this))
    replace hw := Lib.hid (show Cmd.wf { cmdz with kind := 2, dev := D, req := R, id := I, base := V } from ⟨hw.out.e, hw.out.p⟩)
    refine (c_ref19_Patch p (cmE st) _ E.out.rd).mono ?_
    rintro e w13 ⟨rfl, hr13, hk13⟩
    rw [← HF.out]
    replace E := Lib.hid ((E.out.call hr13 hk13).state (show _ = rdPatch' (cmE st) from rfl))
    clear hr13 hk13
    go_wp2_with (with_reducible refine stop_store 27 (.tmp 36) (.tmp 35) rfl rfl ?_)
    refine Stop.mk (wpList_storeAt rfl _ _ _ rfl G 35 F.arr rfl rfl _ E.out.b0 strP (by rw [Patch.arr_size, HL.out]) (by rw [Patch.arr_size, HL.out, Cmd.arr_size hw.out]; decide) (Patch.arr_one _) ?_)
    intro w20 hb20 hk20
    replace E := Lib.hid (E.out.put0 (show Blk w20 G (Cmd.arr { cmdz with kind := 2, dev := D, req := R, id := I, base := V, p := F } none 0) by rw [← Cmd.putP hw.out F HL.out]; exact hb20) hk20)
    replace hw := Lib.hid (show Cmd.wf { cmdz with kind := 2, dev := D, req := R, id := I, base := V, p := F } from ⟨hw.out.e, HL.out⟩)
    clear hb20 hk20
    replace E := Lib.hid (E.out.state (show _ = SS by rw [HSS.out, X1.out] <;> rfl))
    obtain ⟨q0, q1, q2, q3, q4, q5, q6, q7⟩ := cmd_cells hw.out E.out.b0
    have ff := fun i => E.out.b0.frozen i
    have hlt1 := E.out.b0.lt
    have uc := E.out.rd.1.cell (i := 1) rfl
  · have H9 := Lib.hid (R1.out (by rw [← HSS.out]; simpa using hb))
    have X3 := Lib.hid (show rdCmd st = { cmdz with kind := 2, dev := D, req := R, id := I, base := V, p := F } by rw [H9.out, X2.out])
    go_wp2_with (with_reducible refine stop_load 32 (.tmp 3) rfl rfl ?_)
    clear q0 q1 q2 q3 q4 q5 q6 q7 ff hlt1 uc
    refine Stop.mk (wpList_loadB rfl _ _ rfl G rfl _ E.out.b0 strCm (Cmd.arr_size hw.out) ?_)
    go_wp2_with (with_reducible refine stop_store 32 (.tmp 2) (.tmp 53) rfl rfl ?_)
    refine Stop.mk (wpList_storeB rfl _ _ _ rfl w.heap.size _ rfl rfl _ E.out.b1 strCm (Cmd.arr_size hw.out) (by rw [Cmd.arr_size hw.out, Cmd.arr_size cmdz_wf]) (Cmd.arr_ones hw.out) ?_)
    intro w99 hb99 hk99
    replace E := Lib.hid (E.out.put1 hb99 hk99)
    clear hk99
    go_wp2_with (fail)
    refine bodyPost_ret (results_B rfl rfl hb99 strCm (Cmd.arr_size hw.out)) rfl ⟨none, 0, ?_, ?_, E.out.rd, E.out.kept⟩
    · rw [X3.out]
    · rw [X3.out]
      exact World.ownsRow_nil _ _ _ _
  · have H9 := Lib.hid (R0.out (by rw [← HSS.out]; simpa using hb))
    go_wp2_with (with_reducible refine stop_store 32 (.tmp 2) (.tmp 52) rfl rfl ?_)
    clear q0 q1 q2 q3 q4 q5 q6 q7 ff hlt1 uc
    refine Stop.mk (wpList_storeB rfl _ _ _ rfl w.heap.size _ rfl rfl _ E.out.b1 strCm (cmdK_size 0) (by rw [cmdK_size, Cmd.arr_size cmdz_wf]) (cmdK_one 0) ?_)
    intro w99 hb99 hk99
    replace E := Lib.hid (E.out.put1 hb99 hk99)
    clear hk99
    go_wp2_with (fail)
    refine bodyPost_ret (results_B rfl rfl hb99 strCm (cmdK_size 0)) rfl ⟨none, 0, ?_, ?_, E.out.rd, E.out.kept⟩
    · rw [H9.out, cmdK_arr 0]
    · rw [H9.out]; exact World.ownsRow_nil _ _ _ _
set_option maxHeartbeats 4000000 in
set_option maxRecDepth 10000 in
theorem ref33_Read_3 (p : Nat) (st : Rd) (w : World) (hr : RdR w p st) (hk : cmK st = 3) : Calls Tryd.prog 29 #[.pointer (some ⟨p, 0, none⟩)] w (RetRC p (rdCmd' st) w (rdCmd st)) := by
  obtain ⟨x1, x2⟩ := cm_3 hk
  obtain ⟨D, hD⟩ : ∃ D, D = rdN (cmA st) 5 := ⟨_, rfl⟩
  have HD := Lib.hid hD
  obtain ⟨R, hR⟩ : ∃ D, D = rdN (cmB st) 1099511627776 := ⟨_, rfl⟩
  have HR := Lib.hid hR
  obtain ⟨F, hF⟩ : ∃ D, D = rdPred (cmC st) := ⟨_, rfl⟩
  have HF := Lib.hid hF
  obtain ⟨M, hM⟩ : ∃ D : Nat, (D : Int) = rdN (cmF st) 511 := ⟨(rdN (cmF st) 511).toNat, by have := rdN_bd (cmF st) 511; omega⟩
  have HM := Lib.hid hM
  have hmb := rdN_bd (cmF st) 511
  rw [← hM] at hmb
  have hmi : IntKind.u32.wrap (M : Int) = (M : Int) := by rw [wrap_u32']; omega
  rw [← hD, ← hR, ← hF, ← hM, Int.toNat_natCast] at x2
  have X1 := Lib.hid x1
  have X2 := Lib.hid x2
  have HK := Lib.hid (show rdN st 5 = 3 from hk)
  have R0 := Lib.hid (show (rdCmd' st).e ≠ 0 → rdCmd st = cmdz from rdCmd_bad)
  have R1 := Lib.hid (show (rdCmd' st).e = 0 → rdCmd st = rdCmdRaw st from rdCmd_ok)
  have HRD := Lib.hid hr
  clear x1 x2 hk hr hD hR hF hM
  obtain ⟨SS, hSS⟩ : ∃ s, s = rdCmd' st := ⟨_, rfl⟩
  have HSS := Lib.hid hSS
  rw [← hSS]
  clear hSS
  have j1 : (((3 : Int)) == 1) = false := rfl
  have j2 : (((3 : Int)) == 2) = false := rfl
  have j3 : (((3 : Int)) == 3) = true := rfl
  have j4 : (((3 : Int)) == 4) = false := rfl
  have j5 : (((3 : Int)) == 5) = false := rfl
  cases hb : (SS.e != 0)
  all_goals
    go_enter Tryd.func29, Tryd.ntmps29
    go_wp2_with (with_reducible refine stop_call _ rfl ?_)
    refine Stop.mk (EnvR.go HRD.out ?_)
    intro w00 he00 hz00
    have E := Lib.hid (he00.as (cmdK_arr 0).symm)
    clear he00
    go_wp2_with (fail)
    refine (c_ref19_Above p st 5 _ E.out.rd).mono ?_
    rintro e w6 ⟨rfl, hr6, hk6⟩
    rw [HK.out]
    have hz6 := hk6.size
    replace E := Lib.hid ((E.out.call hr6 hk6).state (show _ = cmA st from rfl))
    clear hr6 hk6
    go_wp2_with (with_reducible refine stop_store 32 (.tmp 3) (.tmp 6) rfl rfl ?_)
    refine Stop.mk (wpList_storeB rfl _ _ _ rfl w6.heap.size _ rfl rfl _ (Blk.new _ _ _) strCm (cmdK_size 3) rfl (cmdK_one 3) ?_)
    intro w7 hb7 hk7
    have hz7 := hk7.size
    replace E := Lib.hid (((E.out.alloc 32 _).put0 hb7 hk7).as (cmdK_arr 3).symm)
    simp only [World.size_alloc] at hz7
    have HG := Lib.hid (show w.heap.size < w6.heap.size by omega)
    obtain ⟨G, hG⟩ : ∃ g, g = w6.heap.size := ⟨_, rfl⟩
    have HGl := Lib.hid (show G < w7.heap.size by omega)
    rw [← hG] at E HG ⊢
    clear hb7 hk7 hz7 hG hz6 hz00
    have hw := Lib.hid (show Cmd.wf { cmdz with kind := 3 } from ⟨rfl, rfl⟩)
    obtain ⟨q0, q1, q2, q3, q4, q5, q6, q7⟩ := cmd_cells hw.out E.out.b0
    have ff := fun i => E.out.b0.frozen i
    have hlt1 := E.out.b0.lt
    have uc := E.out.rd.1.cell (i := 1) rfl
    go_wp2_with (fail)
    clear q0 q1 q2 q3 q4 q5 q6 q7 ff hlt1 uc
    refine (c_ref01_RNum p (cmA st) 5 _ E.out.rd).mono ?_
    rintro e w9 ⟨rfl, hr9, hk9⟩
    rw [← HD.out]
    replace E := Lib.hid ((E.out.call hr9 hk9).state (show _ = cmB st from rfl))
    clear hr9 hk9
    obtain ⟨q0, q1, q2, q3, q4, q5, q6, q7⟩ := cmd_cells hw.out E.out.b0
    have ff := fun i => E.out.b0.frozen i
    have hlt1 := E.out.b0.lt
    have uc := E.out.rd.1.cell (i := 1) rfl
    go_wp2_with (fail)
    clear q0 q1 q2 q3 q4 q5 q6 q7 ff hlt1 uc
    replace E := Lib.hid ((E.out.store0 30 (.int .i64 D)).as (show _ = Cmd.arr { cmdz with kind := 3, dev := D } none 0 by have := Cmd.setI hw.out (A := none) (n := 0) 0 (by omega) D; simpa using this))
    replace hw := Lib.hid (show Cmd.wf { cmdz with kind := 3, dev := D } from ⟨hw.out.e, hw.out.p⟩)
    refine (c_ref19_Above p (cmB st) 1099511627776 _ E.out.rd).mono ?_
    rintro e w10 ⟨rfl, hr10, hk10⟩
    rw [← HR.out]
    replace E := Lib.hid ((E.out.call hr10 hk10).state (show _ = cmC st from rfl))
    clear hr10 hk10
    obtain ⟨q0, q1, q2, q3, q4, q5, q6, q7⟩ := cmd_cells hw.out E.out.b0
    have ff := fun i => E.out.b0.frozen i
    have hlt1 := E.out.b0.lt
    have uc := E.out.rd.1.cell (i := 1) rfl
    go_wp2_with (fail)
    clear q0 q1 q2 q3 q4 q5 q6 q7 ff hlt1 uc
    replace E := Lib.hid ((E.out.store0 31 (.int .i64 R)).as (show _ = Cmd.arr { cmdz with kind := 3, dev := D, req := R } none 0 by have := Cmd.setI hw.out (A := none) (n := 0) 1 (by omega) R; simpa using this))
    replace hw := Lib.hid (show Cmd.wf { cmdz with kind := 3, dev := D, req := R } from ⟨hw.out.e, hw.out.p⟩)
    have HO := Lib.hid (show G < w10.heap.size by have := E.out.b0.lt; simpa [World.setCell] using this)
    refine (c_ref16_Read p (cmC st) _ E.out.rd).mono ?_
    rintro e w20 ⟨v20, rfl, own20, hr20, hk20⟩
    rw [← HF.out] at own20
    replace E := Lib.hid ((E.out.call hr20 hk20).state (show _ = cmF st from rfl))
    obtain ⟨B, n, rfl, -⟩ := own_form own20
    have O := Lib.hid own20
    clear hr20 hk20 own20
    obtain ⟨q0, q1, q2, q3, q4, q5, q6, q7⟩ := cmd_cells hw.out E.out.b0
    have ff := fun i => E.out.b0.frozen i
    have hlt1 := E.out.b0.lt
    have uc := E.out.rd.1.cell (i := 1) rfl
    go_wp2_with (fail)
    clear q0 q1 q2 q3 q4 q5 q6 q7 ff hlt1 uc
    have K1 := kept_set w20 G 61 (.slice B F.length n)
    replace O := Lib.hid (own_kept O.out K1 (fun g hg => by injection hg with hg; have := HO.out; simp [World.setCell]; omega))
    clear K1
    replace E := Lib.hid ((E.out.store0 61 (.slice B F.length n)).as (show _ = Cmd.arr { cmdz with kind := 3, dev := D, req := R, f := F } B n from Cmd.setF hw.out B F n))
    replace hw := Lib.hid (show Cmd.wf { cmdz with kind := 3, dev := D, req := R, f := F } from ⟨hw.out.e, hw.out.p⟩)
    refine (c_ref01_RNum p (cmF st) 511 _ E.out.rd).mono ?_
    rintro e w21 ⟨rfl, hr21, hk21⟩
    rw [← HM.out]
    replace O := Lib.hid (own_kept O.out hk21 (fun g hg => by injection hg with hg; have := E.out.low; have := HG.out; have := HO.out; simp [World.setCell]; omega))
    replace E := Lib.hid ((E.out.call hr21 hk21).state (show _ = rdN' (cmF st) 511 from rfl))
    clear hr21 hk21
    obtain ⟨q0, q1, q2, q3, q4, q5, q6, q7⟩ := cmd_cells hw.out E.out.b0
    have ff := fun i => E.out.b0.frozen i
    have hlt1 := E.out.b0.lt
    have uc := E.out.rd.1.cell (i := 1) rfl
    go_wp2_with (with_reducible refine stop_loadG 43 (.tmp 49) rfl ?_)
    clear q0 q1 q2 q3 q4 q5 q6 q7 ff hlt1 uc
    have K1 := kept_set w21 G 62 (.int .u32 M)
    replace O := Lib.hid (own_kept O.out K1 (fun g hg => by injection hg with hg; have := HO.out; simp [World.setCell]; omega))
    clear K1
    replace E := Lib.hid ((E.out.store0 62 (.int .u32 M)).as (show _ = Cmd.arr { cmdz with kind := 3, dev := D, req := R, f := F, mask := M } B n from Cmd.setM hw.out M))
    replace hw := Lib.hid (show Cmd.wf { cmdz with kind := 3, dev := D, req := R, f := F, mask := M } from ⟨hw.out.e, hw.out.p⟩)
    refine Stop.mk ?_
    replace E := Lib.hid (E.out.state (show _ = SS by rw [HSS.out, X1.out] <;> rfl))
    obtain ⟨q0, q1, q2, q3, q4, q5, q6, q7⟩ := cmd_cells hw.out E.out.b0
    have ff := fun i => E.out.b0.frozen i
    have hlt1 := E.out.b0.lt
    have uc := E.out.rd.1.cell (i := 1) rfl
  · have H9 := Lib.hid (R1.out (by rw [← HSS.out]; simpa using hb))
    have X3 := Lib.hid (show rdCmd st = { cmdz with kind := 3, dev := D, req := R, f := F, mask := M } by rw [H9.out, X2.out])
    go_wp2_with (with_reducible refine stop_load 32 (.tmp 3) rfl rfl ?_)
    clear q0 q1 q2 q3 q4 q5 q6 q7 ff hlt1 uc
    refine Stop.mk (wpList_loadB rfl _ _ rfl G rfl _ E.out.b0 strCm (Cmd.arr_size hw.out) ?_)
    go_wp2_with (with_reducible refine stop_store 32 (.tmp 2) (.tmp 53) rfl rfl ?_)
    refine Stop.mk (wpList_storeB rfl _ _ _ rfl w.heap.size _ rfl rfl _ E.out.b1 strCm (Cmd.arr_size hw.out) (by rw [Cmd.arr_size hw.out, Cmd.arr_size cmdz_wf]) (Cmd.arr_ones hw.out) ?_)
    intro w99 hb99 hk99
    replace O := Lib.hid (own_kept O.out hk99 (fun g hg => by injection hg with hg; have := HG.out; have := HO.out; simp [World.setCell]; omega))
    replace E := Lib.hid (E.out.put1 hb99 hk99)
    clear hk99
    go_wp2_with (fail)
    refine bodyPost_ret (results_B rfl rfl hb99 strCm (Cmd.arr_size hw.out)) rfl ⟨B, n, ?_, ?_, E.out.rd, E.out.kept⟩
    · rw [X3.out]
    · rw [X3.out]
      exact own_base O.out (by have := HG.out; have := HO.out; simp [World.setCell]; omega)
  · have H9 := Lib.hid (R0.out (by rw [← HSS.out]; simpa using hb))
    go_wp2_with (with_reducible refine stop_store 32 (.tmp 2) (.tmp 52) rfl rfl ?_)
    clear q0 q1 q2 q3 q4 q5 q6 q7 ff hlt1 uc
    refine Stop.mk (wpList_storeB rfl _ _ _ rfl w.heap.size _ rfl rfl _ E.out.b1 strCm (cmdK_size 0) (by rw [cmdK_size, Cmd.arr_size cmdz_wf]) (cmdK_one 0) ?_)
    intro w99 hb99 hk99
    replace E := Lib.hid (E.out.put1 hb99 hk99)
    clear hk99
    go_wp2_with (fail)
    refine bodyPost_ret (results_B rfl rfl hb99 strCm (cmdK_size 0)) rfl ⟨none, 0, ?_, ?_, E.out.rd, E.out.kept⟩
    · rw [H9.out, cmdK_arr 0]
    · rw [H9.out]; exact World.ownsRow_nil _ _ _ _
set_option maxHeartbeats 4000000 in
set_option maxRecDepth 10000 in
theorem ref33_Read_4 (p : Nat) (st : Rd) (w : World) (hr : RdR w p st) (hk : cmK st = 4) : Calls Tryd.prog 29 #[.pointer (some ⟨p, 0, none⟩)] w (RetRC p (rdCmd' st) w (rdCmd st)) := by
  obtain ⟨x1, x2⟩ := cm_4 (st := st) (.inr hk)
  rw [hk] at x2
  obtain ⟨D, hD⟩ : ∃ D, D = rdN (cmA st) 5 := ⟨_, rfl⟩
  have HD := Lib.hid hD
  obtain ⟨R, hR⟩ : ∃ D, D = rdN (cmB st) 1099511627776 := ⟨_, rfl⟩
  have HR := Lib.hid hR
  rw [← hD, ← hR] at x2
  have X1 := Lib.hid x1
  have X2 := Lib.hid x2
  have HK := Lib.hid (show rdN st 5 = 4 from hk)
  have R0 := Lib.hid (show (rdCmd' st).e ≠ 0 → rdCmd st = cmdz from rdCmd_bad)
  have R1 := Lib.hid (show (rdCmd' st).e = 0 → rdCmd st = rdCmdRaw st from rdCmd_ok)
  have HRD := Lib.hid hr
  clear x1 x2 hk hr hD hR
  obtain ⟨SS, hSS⟩ : ∃ s, s = rdCmd' st := ⟨_, rfl⟩
  have HSS := Lib.hid hSS
  rw [← hSS]
  clear hSS
  have j1 : (((4 : Int)) == 1) = false := rfl
  have j2 : (((4 : Int)) == 2) = false := rfl
  have j3 : (((4 : Int)) == 3) = false := rfl
  have j4 : (((4 : Int)) == 4) = true := rfl
  have j5 : (((4 : Int)) == 5) = false := rfl
  cases hb : (SS.e != 0)
  all_goals
    go_enter Tryd.func29, Tryd.ntmps29
    go_wp2_with (with_reducible refine stop_call _ rfl ?_)
    refine Stop.mk (EnvR.go HRD.out ?_)
    intro w00 he00 hz00
    have E := Lib.hid (he00.as (cmdK_arr 0).symm)
    clear he00
    go_wp2_with (fail)
    refine (c_ref19_Above p st 5 _ E.out.rd).mono ?_
    rintro e w6 ⟨rfl, hr6, hk6⟩
    rw [HK.out]
    have hz6 := hk6.size
    replace E := Lib.hid ((E.out.call hr6 hk6).state (show _ = cmA st from rfl))
    clear hr6 hk6
    go_wp2_with (with_reducible refine stop_store 32 (.tmp 3) (.tmp 6) rfl rfl ?_)
    refine Stop.mk (wpList_storeB rfl _ _ _ rfl w6.heap.size _ rfl rfl _ (Blk.new _ _ _) strCm (cmdK_size 4) rfl (cmdK_one 4) ?_)
    intro w7 hb7 hk7
    have hz7 := hk7.size
    replace E := Lib.hid (((E.out.alloc 32 _).put0 hb7 hk7).as (cmdK_arr 4).symm)
    simp only [World.size_alloc] at hz7
    have HG := Lib.hid (show w.heap.size < w6.heap.size by omega)
    obtain ⟨G, hG⟩ : ∃ g, g = w6.heap.size := ⟨_, rfl⟩
    have HGl := Lib.hid (show G < w7.heap.size by omega)
    rw [← hG] at E HG ⊢
    clear hb7 hk7 hz7 hG hz6 hz00
    have hw := Lib.hid (show Cmd.wf { cmdz with kind := 4 } from ⟨rfl, rfl⟩)
    obtain ⟨q0, q1, q2, q3, q4, q5, q6, q7⟩ := cmd_cells hw.out E.out.b0
    have ff := fun i => E.out.b0.frozen i
    have hlt1 := E.out.b0.lt
    have uc := E.out.rd.1.cell (i := 1) rfl
    go_wp2_with (fail)
    clear q0 q1 q2 q3 q4 q5 q6 q7 ff hlt1 uc
    refine (c_ref01_RNum p (cmA st) 5 _ E.out.rd).mono ?_
    rintro e w9 ⟨rfl, hr9, hk9⟩
    rw [← HD.out]
    replace E := Lib.hid ((E.out.call hr9 hk9).state (show _ = cmB st from rfl))
    clear hr9 hk9
    obtain ⟨q0, q1, q2, q3, q4, q5, q6, q7⟩ := cmd_cells hw.out E.out.b0
    have ff := fun i => E.out.b0.frozen i
    have hlt1 := E.out.b0.lt
    have uc := E.out.rd.1.cell (i := 1) rfl
    go_wp2_with (fail)
    clear q0 q1 q2 q3 q4 q5 q6 q7 ff hlt1 uc
    replace E := Lib.hid ((E.out.store0 30 (.int .i64 D)).as (show _ = Cmd.arr { cmdz with kind := 4, dev := D } none 0 by have := Cmd.setI hw.out (A := none) (n := 0) 0 (by omega) D; simpa using this))
    replace hw := Lib.hid (show Cmd.wf { cmdz with kind := 4, dev := D } from ⟨hw.out.e, hw.out.p⟩)
    refine (c_ref19_Above p (cmB st) 1099511627776 _ E.out.rd).mono ?_
    rintro e w10 ⟨rfl, hr10, hk10⟩
    rw [← HR.out]
    replace E := Lib.hid ((E.out.call hr10 hk10).state (show _ = cmC st from rfl))
    clear hr10 hk10
    obtain ⟨q0, q1, q2, q3, q4, q5, q6, q7⟩ := cmd_cells hw.out E.out.b0
    have ff := fun i => E.out.b0.frozen i
    have hlt1 := E.out.b0.lt
    have uc := E.out.rd.1.cell (i := 1) rfl
    go_wp2_with (with_reducible refine stop_loadG 43 (.tmp 49) rfl ?_)
    clear q0 q1 q2 q3 q4 q5 q6 q7 ff hlt1 uc
    replace E := Lib.hid ((E.out.store0 31 (.int .i64 R)).as (show _ = Cmd.arr { cmdz with kind := 4, dev := D, req := R } none 0 by have := Cmd.setI hw.out (A := none) (n := 0) 1 (by omega) R; simpa using this))
    replace hw := Lib.hid (show Cmd.wf { cmdz with kind := 4, dev := D, req := R } from ⟨hw.out.e, hw.out.p⟩)
    refine Stop.mk ?_
    replace E := Lib.hid (E.out.state (show _ = SS by rw [HSS.out, X1.out] <;> rfl))
    obtain ⟨q0, q1, q2, q3, q4, q5, q6, q7⟩ := cmd_cells hw.out E.out.b0
    have ff := fun i => E.out.b0.frozen i
    have hlt1 := E.out.b0.lt
    have uc := E.out.rd.1.cell (i := 1) rfl
  · have H9 := Lib.hid (R1.out (by rw [← HSS.out]; simpa using hb))
    have X3 := Lib.hid (show rdCmd st = { cmdz with kind := 4, dev := D, req := R } by rw [H9.out, X2.out])
    go_wp2_with (with_reducible refine stop_load 32 (.tmp 3) rfl rfl ?_)
    clear q0 q1 q2 q3 q4 q5 q6 q7 ff hlt1 uc
    refine Stop.mk (wpList_loadB rfl _ _ rfl G rfl _ E.out.b0 strCm (Cmd.arr_size hw.out) ?_)
    go_wp2_with (with_reducible refine stop_store 32 (.tmp 2) (.tmp 53) rfl rfl ?_)
    refine Stop.mk (wpList_storeB rfl _ _ _ rfl w.heap.size _ rfl rfl _ E.out.b1 strCm (Cmd.arr_size hw.out) (by rw [Cmd.arr_size hw.out, Cmd.arr_size cmdz_wf]) (Cmd.arr_ones hw.out) ?_)
    intro w99 hb99 hk99
    replace E := Lib.hid (E.out.put1 hb99 hk99)
    clear hk99
    go_wp2_with (fail)
    refine bodyPost_ret (results_B rfl rfl hb99 strCm (Cmd.arr_size hw.out)) rfl ⟨none, 0, ?_, ?_, E.out.rd, E.out.kept⟩
    · rw [X3.out]
    · rw [X3.out]
      exact World.ownsRow_nil _ _ _ _
  · have H9 := Lib.hid (R0.out (by rw [← HSS.out]; simpa using hb))
    go_wp2_with (with_reducible refine stop_store 32 (.tmp 2) (.tmp 52) rfl rfl ?_)
    clear q0 q1 q2 q3 q4 q5 q6 q7 ff hlt1 uc
    refine Stop.mk (wpList_storeB rfl _ _ _ rfl w.heap.size _ rfl rfl _ E.out.b1 strCm (cmdK_size 0) (by rw [cmdK_size, Cmd.arr_size cmdz_wf]) (cmdK_one 0) ?_)
    intro w99 hb99 hk99
    replace E := Lib.hid (E.out.put1 hb99 hk99)
    clear hk99
    go_wp2_with (fail)
    refine bodyPost_ret (results_B rfl rfl hb99 strCm (cmdK_size 0)) rfl ⟨none, 0, ?_, ?_, E.out.rd, E.out.kept⟩
    · rw [H9.out, cmdK_arr 0]
    · rw [H9.out]; exact World.ownsRow_nil _ _ _ _
set_option maxHeartbeats 4000000 in
set_option maxRecDepth 10000 in
theorem ref33_Read_5 (p : Nat) (st : Rd) (w : World) (hr : RdR w p st) (hk : cmK st = 5) : Calls Tryd.prog 29 #[.pointer (some ⟨p, 0, none⟩)] w (RetRC p (rdCmd' st) w (rdCmd st)) := by
  obtain ⟨x1, x2⟩ := cm_5 hk
  obtain ⟨D, hD⟩ : ∃ D, D = rdN (cmA st) 1099511627776 := ⟨_, rfl⟩
  have HD := Lib.hid hD
  rw [← hD] at x2
  have X1 := Lib.hid x1
  have X2 := Lib.hid x2
  have HK := Lib.hid (show rdN st 5 = 5 from hk)
  have R0 := Lib.hid (show (rdCmd' st).e ≠ 0 → rdCmd st = cmdz from rdCmd_bad)
  have R1 := Lib.hid (show (rdCmd' st).e = 0 → rdCmd st = rdCmdRaw st from rdCmd_ok)
  have HRD := Lib.hid hr
  clear x1 x2 hk hr hD
  obtain ⟨SS, hSS⟩ : ∃ s, s = rdCmd' st := ⟨_, rfl⟩
  have HSS := Lib.hid hSS
  rw [← hSS]
  clear hSS
  have j1 : (((5 : Int)) == 1) = false := rfl
  have j2 : (((5 : Int)) == 2) = false := rfl
  have j3 : (((5 : Int)) == 3) = false := rfl
  have j4 : (((5 : Int)) == 4) = false := rfl
  have j5 : (((5 : Int)) == 5) = true := rfl
  cases hb : (SS.e != 0)
  all_goals
    go_enter Tryd.func29, Tryd.ntmps29
    go_wp2_with (with_reducible refine stop_call _ rfl ?_)
    refine Stop.mk (EnvR.go HRD.out ?_)
    intro w00 he00 hz00
    have E := Lib.hid (he00.as (cmdK_arr 0).symm)
    clear he00
    go_wp2_with (fail)
    refine (c_ref19_Above p st 5 _ E.out.rd).mono ?_
    rintro e w6 ⟨rfl, hr6, hk6⟩
    rw [HK.out]
    have hz6 := hk6.size
    replace E := Lib.hid ((E.out.call hr6 hk6).state (show _ = cmA st from rfl))
    clear hr6 hk6
    go_wp2_with (with_reducible refine stop_store 32 (.tmp 3) (.tmp 6) rfl rfl ?_)
    refine Stop.mk (wpList_storeB rfl _ _ _ rfl w6.heap.size _ rfl rfl _ (Blk.new _ _ _) strCm (cmdK_size 5) rfl (cmdK_one 5) ?_)
    intro w7 hb7 hk7
    have hz7 := hk7.size
    replace E := Lib.hid (((E.out.alloc 32 _).put0 hb7 hk7).as (cmdK_arr 5).symm)
    simp only [World.size_alloc] at hz7
    have HG := Lib.hid (show w.heap.size < w6.heap.size by omega)
    obtain ⟨G, hG⟩ : ∃ g, g = w6.heap.size := ⟨_, rfl⟩
    have HGl := Lib.hid (show G < w7.heap.size by omega)
    rw [← hG] at E HG ⊢
    clear hb7 hk7 hz7 hG hz6 hz00
    have hw := Lib.hid (show Cmd.wf { cmdz with kind := 5 } from ⟨rfl, rfl⟩)
    obtain ⟨q0, q1, q2, q3, q4, q5, q6, q7⟩ := cmd_cells hw.out E.out.b0
    have ff := fun i => E.out.b0.frozen i
    have hlt1 := E.out.b0.lt
    have uc := E.out.rd.1.cell (i := 1) rfl
    go_wp2_with (fail)
    clear q0 q1 q2 q3 q4 q5 q6 q7 ff hlt1 uc
    refine (c_ref01_RNum p (cmA st) 1099511627776 _ E.out.rd).mono ?_
    rintro e w9 ⟨rfl, hr9, hk9⟩
    rw [← HD.out]
    replace E := Lib.hid ((E.out.call hr9 hk9).state (show _ = rdN' (cmA st) 1099511627776 from rfl))
    clear hr9 hk9
    obtain ⟨q0, q1, q2, q3, q4, q5, q6, q7⟩ := cmd_cells hw.out E.out.b0
    have ff := fun i => E.out.b0.frozen i
    have hlt1 := E.out.b0.lt
    have uc := E.out.rd.1.cell (i := 1) rfl
    go_wp2_with (with_reducible refine stop_loadG 43 (.tmp 49) rfl ?_)
    clear q0 q1 q2 q3 q4 q5 q6 q7 ff hlt1 uc
    replace E := Lib.hid ((E.out.store0 34 (.int .i64 D)).as (show _ = Cmd.arr { cmdz with kind := 5, keep := D } none 0 by have := Cmd.setI hw.out (A := none) (n := 0) 4 (by omega) D; simpa using this))
    replace hw := Lib.hid (show Cmd.wf { cmdz with kind := 5, keep := D } from ⟨hw.out.e, hw.out.p⟩)
    refine Stop.mk ?_
    replace E := Lib.hid (E.out.state (show _ = SS by rw [HSS.out, X1.out] <;> rfl))
    obtain ⟨q0, q1, q2, q3, q4, q5, q6, q7⟩ := cmd_cells hw.out E.out.b0
    have ff := fun i => E.out.b0.frozen i
    have hlt1 := E.out.b0.lt
    have uc := E.out.rd.1.cell (i := 1) rfl
  · have H9 := Lib.hid (R1.out (by rw [← HSS.out]; simpa using hb))
    have X3 := Lib.hid (show rdCmd st = { cmdz with kind := 5, keep := D } by rw [H9.out, X2.out])
    go_wp2_with (with_reducible refine stop_load 32 (.tmp 3) rfl rfl ?_)
    clear q0 q1 q2 q3 q4 q5 q6 q7 ff hlt1 uc
    refine Stop.mk (wpList_loadB rfl _ _ rfl G rfl _ E.out.b0 strCm (Cmd.arr_size hw.out) ?_)
    go_wp2_with (with_reducible refine stop_store 32 (.tmp 2) (.tmp 53) rfl rfl ?_)
    refine Stop.mk (wpList_storeB rfl _ _ _ rfl w.heap.size _ rfl rfl _ E.out.b1 strCm (Cmd.arr_size hw.out) (by rw [Cmd.arr_size hw.out, Cmd.arr_size cmdz_wf]) (Cmd.arr_ones hw.out) ?_)
    intro w99 hb99 hk99
    replace E := Lib.hid (E.out.put1 hb99 hk99)
    clear hk99
    go_wp2_with (fail)
    refine bodyPost_ret (results_B rfl rfl hb99 strCm (Cmd.arr_size hw.out)) rfl ⟨none, 0, ?_, ?_, E.out.rd, E.out.kept⟩
    · rw [X3.out]
    · rw [X3.out]
      exact World.ownsRow_nil _ _ _ _
  · have H9 := Lib.hid (R0.out (by rw [← HSS.out]; simpa using hb))
    go_wp2_with (with_reducible refine stop_store 32 (.tmp 2) (.tmp 52) rfl rfl ?_)
    clear q0 q1 q2 q3 q4 q5 q6 q7 ff hlt1 uc
    refine Stop.mk (wpList_storeB rfl _ _ _ rfl w.heap.size _ rfl rfl _ E.out.b1 strCm (cmdK_size 0) (by rw [cmdK_size, Cmd.arr_size cmdz_wf]) (cmdK_one 0) ?_)
    intro w99 hb99 hk99
    replace E := Lib.hid (E.out.put1 hb99 hk99)
    clear hk99
    go_wp2_with (fail)
    refine bodyPost_ret (results_B rfl rfl hb99 strCm (cmdK_size 0)) rfl ⟨none, 0, ?_, ?_, E.out.rd, E.out.kept⟩
    · rw [H9.out, cmdK_arr 0]
    · rw [H9.out]; exact World.ownsRow_nil _ _ _ _
theorem c_ref33_Read (p : Nat) (st : Rd) (w : World) (hr : RdR w p st) : Calls Tryd.prog 29 #[.pointer (some ⟨p, 0, none⟩)] w (RetRC p (rdCmd' st) w (rdCmd st)) := by
  rcases cmK_cases st with h | h | h | h | h | h
  · exact ref33_Read_0 p st w hr h
  · exact ref33_Read_1 p st w hr h
  · exact ref33_Read_2 p st w hr h
  · exact ref33_Read_3 p st w hr h
  · exact ref33_Read_4 p st w hr h
  · exact ref33_Read_5 p st w hr h
end Go.Proofs.YtjhndilflcigiaaDoor
