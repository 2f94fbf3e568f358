/-
  The walks of cmdwire's small readers: numbers above 0, and what each kind of command takes, stored into a command.
-/
import Derived.Test.YtjhndilflcigiaaDoorQc34
import Derived.Test.YtjhndilflcigiaaDoorRows
import Derived.WalkKit
import Derived.WalkSpells
import Derived.WalkLawsBesides
import Derived.Lib.Hide
import Derived.Deep.QuietTactic
import Derived.BigQuiet
import Derived.Maps.AppendAt
import Derived.WalkSmall
import Derived.ProofKit
import Derived.OpenShut
import Derived.JoinedCond
import Derived.Deep.Slices
import Derived.Deep.Fields
import Derived.Carry
import Derived.Deep.AppendSrc
import Derived.Lib.AppendStr
import Derived.Laws.BytesArg
import Derived.Test.YtjhndilflcigiaaDoorProg
import Derived.Shelf.Spec.TrailingZeros
import Derived.RangeFuncNested
import Derived.RangeFuncBound
import Derived.RangeFuncCalls
import Derived.RangeFuncLeaves
import Derived.Shelf.Abstract
import Derived.Shelf.RegionOpen
import Derived.OwnWalkIn
import Derived.TacticsInMore
import Derived.LoopNIn
import Derived.LoopIn
import Derived.Test.YtjhndilflcigiaaDoorTie
import Derived.Lib.LaidTab
import Derived.LaidMore
import Derived.SevenTiedAt
import Derived.Test.YtjhndilflcigiaaDoorCards
import Derived.Laws.Tables
import Derived.Laws.Rows
import Derived.ChangeKeysEq
import Derived.Laws.StructEq
import Derived.Deep.CutBlock
import Derived.Deep.DeepCutAuto
import Derived.Laws.CopyOwn
import Derived.Outline
import Derived.IntWalk
import Derived.Lib.EndianBits
import Derived.StillTail
import Derived.Lib.AppendZeros
import Derived.Deep.Quiet
import Derived.Maps.Own
import Derived.WalkMore
namespace Go.Proofs.YtjhndilflcigiaaDoor
open Go.RowKit

set_option maxHeartbeats 1000000 in
theorem c_cmdwire_above (p : Option Nat) (st : Rd) (most : Int) (w : World) (h : RdP w p st) : Calls Tryd.prog 78 #[ptr p, .int .i64 most] w (RetP p (rdAb' st most) w (.int .i64 (rdN st most))) := by
  by_cases h0 : rdN st most = 0
  · rw [rdAb'_zero h0]
    have k : (rdN st most == 0) = true := by simpa using h0
    clear h0
    go_enter Tryd.func78, Tryd.ntmps78
    go_wp2_with (fail)
    refine (c_octet_RNum p st most _ h).mono ?_
    rintro e w1 ⟨rfl, hr1, hk1⟩
    have hz1 := hk1.size
    go_wp2_with (fail)
    refine (c_octet_Fail p (rdN' st most) 3 _ hr1).mono ?_
    rintro e w2 ⟨rfl, hr2, hk2⟩
    have hz2 := hk2.size
    go_wp2_with (fail)
    go_ret
    exact ⟨rfl, hr2, (by repeat (first | exact Kept.refl _ _ _ | refine Kept.drew ?_ | refine Kept.alloc ?_ (by first | omega | (simp; done) | (simp; omega)) _ | refine Kept.setCell ?_ (by first | (right; rfl) | (left; first | omega | (simp; done) | (simp; omega))) _ | refine Kept.then_kept ?_ (by assumption) (by first | omega | (simp; done) | (simp; omega)) | refine Kept.then_below ?_ (by assumption) (by first | omega | (simp; done) | (simp; omega)) | refine Kept.low ?_ (by assumption)))⟩
  · rw [rdAb'_pos h0]
    have k : (rdN st most == 0) = false := by simpa using h0
    clear h0
    go_enter Tryd.func78, Tryd.ntmps78
    go_wp2_with (fail)
    refine (c_octet_RNum p st most _ h).mono ?_
    rintro e w1 ⟨rfl, hr1, hk1⟩
    have hz1 := hk1.size
    go_wp2_with (fail)
    go_ret
    exact ⟨rfl, hr1, (by repeat (first | exact Kept.refl _ _ _ | refine Kept.drew ?_ | refine Kept.alloc ?_ (by first | omega | (simp; done) | (simp; omega)) _ | refine Kept.setCell ?_ (by first | (right; rfl) | (left; first | omega | (simp; done) | (simp; omega))) _ | refine Kept.then_kept ?_ (by assumption) (by first | omega | (simp; done) | (simp; omega)) | refine Kept.then_below ?_ (by assumption) (by first | omega | (simp; done) | (simp; omega)) | refine Kept.low ?_ (by assumption)))⟩
/-- The end of a call that reads and stores. -/
def RetQ (p : Option Nat) (S : Rd) (q : Nat) (cs : Array Value) (w : World) (e : Ending) (w' : World) : Prop := e = .returned (.tuple #[]) ∧ EnvQ p S q cs w w'
set_option maxHeartbeats 1000000 in
theorem c_cmdwire_request (p : Option Nat) (st : Rd) (q : Nat) (c : Cmd) (A : Option Addr) (n : Nat) (w : World) (hwf : c.wf) (r : RdP w p st) (b : Blk w q (c.arr A n)) (low : ∀ g, p = some g → g < q) :
    Calls Tryd.prog 76 #[ptr p, .pointer (some ⟨q, 0, none⟩)] w (RetQ p (rdAb' (rdN' st 5) 1099511627776) q (Cmd.arr { c with dev := rdN st 5, req := rdN (rdN' st 5) 1099511627776 } A n) w) := by
  have E := Lib.hid (EnvQ.start r b low)
  have hw := Lib.hid hwf
  have hlt := E.out.lt
  clear r b low hwf
  obtain ⟨D, hD⟩ : ∃ D, D = rdN st 5 := ⟨_, rfl⟩
  obtain ⟨R, hR⟩ : ∃ D, D = rdN (rdN' st 5) 1099511627776 := ⟨_, rfl⟩
  have HD := Lib.hid hD
  have HR := Lib.hid hR
  rw [← hD, ← hR]
  clear hD hR
  go_enter Tryd.func76, Tryd.ntmps76
  go_wp2_with (fail)
  refine (c_octet_RNum p st 5 _ E.out.rd).mono ?_
  rintro e w1 ⟨rfl, hr1, hk1⟩
  rw [← HD.out]
  replace E := Lib.hid (E.out.call hr1 hk1)
  clear hr1 hk1
  obtain ⟨q0, q1, q2, q3, q4, q5, q6, q7⟩ := cmd_cells hw.out E.out.blk; have ff := fun i => E.out.blk.frozen i; have hlt1 := E.out.blk.lt
  go_wp2_with (fail)
  clear q0 q1 q2 q3 q4 q5 q6 q7 ff hlt1
  replace E := Lib.hid ((E.out.store 30 (.int .i64 D)).as (show _ = Cmd.arr { c with dev := D } A n by have := Cmd.setI hw.out (A := A) (n := n) 0 (by omega) D; simpa using this))
  replace hw := Lib.hid (show Cmd.wf { c with dev := D } from ⟨hw.out.e, hw.out.p⟩)
  refine (c_cmdwire_above p _ 1099511627776 _ E.out.rd).mono ?_
  rintro e w2 ⟨rfl, hr2, hk2⟩
  rw [← HR.out]
  replace E := Lib.hid (E.out.call hr2 hk2)
  clear hr2 hk2
  obtain ⟨q0, q1, q2, q3, q4, q5, q6, q7⟩ := cmd_cells hw.out E.out.blk; have ff := fun i => E.out.blk.frozen i; have hlt1 := E.out.blk.lt
  go_wp2_with (fail)
  clear q0 q1 q2 q3 q4 q5 q6 q7 ff hlt1
  replace E := Lib.hid ((E.out.store 31 (.int .i64 R)).as (show _ = Cmd.arr { c with dev := D, req := R } A n by have := Cmd.setI hw.out (A := A) (n := n) 1 (by omega) R; simpa using this))
  go_end0
  exact ⟨rfl, E.out⟩
set_option maxHeartbeats 1000000 in
theorem c_cmdwire_Read1 (p : Option Nat) (st : Rd) (q : Nat) (c : Cmd) (A : Option Addr) (n : Nat) (w : World) (hT : Tab w) (hwf : c.wf) (r : RdP w p st) (b : Blk w q (c.arr A n)) (low : ∀ g, p = some g → g < q) :
    Calls Tryd.prog 72 #[ptr p, .pointer (some ⟨q, 0, none⟩)] w (RetQ p (rdEdit' st) q (Cmd.arr { c with e := rdEdit st } A n) w) := by
  have E := Lib.hid (EnvQ.start r b low)
  have hw := Lib.hid hwf
  have hlt := E.out.lt
  clear r b low hwf
  go_enter Tryd.func72, Tryd.ntmps72
  go_wp2_with (fail)
  refine (c_edit_Read p st _ hT E.out.rd).mono ?_
  rintro e w1 ⟨rfl, hr1, hk1⟩
  replace E := Lib.hid (E.out.call hr1 hk1)
  clear hr1 hk1
  go_wp2_with (with_reducible refine stop_store 29 (.tmp 8) (.tmp 6) rfl rfl ?_)
  refine Stop.mk (wpList_storeAt rfl _ _ _ rfl q 1 (rdEdit st).arr rfl rfl _ E.out.blk strE (Edit.sizeE (rdEdit_len st)) (by rw [Edit.sizeE (rdEdit_len st), Cmd.arr_size hw.out]; decide) (Edit.arr_one _) ?_)
  intro w3 hb3 hk3
  replace E := Lib.hid (E.out.put (show Blk w3 q (Cmd.arr { c with e := rdEdit st } A n) by rw [← Cmd.putE hw.out (rdEdit st) (rdEdit_len st)]; exact hb3) hk3)
  clear hb3 hk3
  go_wp2_with (fail)
  go_end0
  exact ⟨rfl, E.out⟩
set_option maxHeartbeats 1000000 in
theorem c_cmdwire_Read2 (p : Option Nat) (st : Rd) (q : Nat) (c : Cmd) (A : Option Addr) (n : Nat) (w : World) (hwf : c.wf) (r : RdP w p st) (b : Blk w q (c.arr A n)) (low : ∀ g, p = some g → g < q) :
    Calls Tryd.prog 77 #[ptr p, .pointer (some ⟨q, 0, none⟩)] w (RetQ p (rdN' st 1099511627776) q (Cmd.arr { c with keep := rdN st 1099511627776 } A n) w) := by
  have E := Lib.hid (EnvQ.start r b low)
  have hw := Lib.hid hwf
  have hlt := E.out.lt
  clear r b low hwf
  obtain ⟨D, hD⟩ : ∃ D, D = rdN st 1099511627776 := ⟨_, rfl⟩
  have HD := Lib.hid hD
  rw [← hD]
  clear hD
  go_enter Tryd.func77, Tryd.ntmps77
  go_wp2_with (fail)
  refine (c_octet_RNum p st _ _ E.out.rd).mono ?_
  rintro e w1 ⟨rfl, hr1, hk1⟩
  rw [← HD.out]
  replace E := Lib.hid (E.out.call hr1 hk1)
  clear hr1 hk1
  obtain ⟨q0, q1, q2, q3, q4, q5, q6, q7⟩ := cmd_cells hw.out E.out.blk; have ff := fun i => E.out.blk.frozen i; have hlt1 := E.out.blk.lt
  go_wp2_with (fail)
  clear q0 q1 q2 q3 q4 q5 q6 q7 ff hlt1
  replace E := Lib.hid ((E.out.store 34 (.int .i64 D)).as (show _ = Cmd.arr { c with keep := D } A n by have := Cmd.setI hw.out (A := A) (n := n) 4 (by omega) D; simpa using this))
  go_end0
  exact ⟨rfl, E.out⟩
/-- What a put takes behind the request. -/
def rqS (st : Rd) : Rd := rdAb' (rdN' st 5) 1099511627776
def cmD' (st : Rd) : Rd := rdAb' (rqS st) 1073741823
def cmE' (st : Rd) : Rd := rdAb' (cmD' st) 1099511627776
set_option maxHeartbeats 2000000 in
set_option maxRecDepth 4000 in
theorem c_cmdwire_write (p : Option Nat) (st : Rd) (q : Nat) (c : Cmd) (A : Option Addr) (n : Nat) (w : World) (hT : Tab w) (hqT : q ≠ 0) (hwf : c.wf) (r : RdP w p st) (b : Blk w q (c.arr A n)) (low : ∀ g, p = some g → g < q) :
    Calls Tryd.prog 74 #[ptr p, .pointer (some ⟨q, 0, none⟩)] w (RetQ p (rdPatch' (cmE' st)) q (Cmd.arr { c with dev := rdN st 5, req := rdN (rdN' st 5) 1099511627776, id := rdN (rqS st) 1073741823, base := rdN (cmD' st) 1099511627776, p := rdPatch (cmE' st) } A n) w) := by
  have hpT := r.tab hT
  have HT := Lib.hid hT
  have HQT := Lib.hid hqT
  have E := Lib.hid (EnvQ.start r b low)
  have hw := Lib.hid hwf
  have hlt := E.out.lt
  clear r b low hwf
  obtain ⟨D, hD⟩ : ∃ D, D = rdN st 5 := ⟨_, rfl⟩
  obtain ⟨R, hR⟩ : ∃ D, D = rdN (rdN' st 5) 1099511627776 := ⟨_, rfl⟩
  obtain ⟨I, hI⟩ : ∃ D, D = rdN (rqS st) 1073741823 := ⟨_, rfl⟩
  obtain ⟨V, hV⟩ : ∃ D, D = rdN (cmD' st) 1099511627776 := ⟨_, rfl⟩
  obtain ⟨F, hF⟩ : ∃ D, D = rdPatch (cmE' st) := ⟨_, rfl⟩
  obtain ⟨S4, hS4⟩ : ∃ D, D = cmE' st := ⟨_, rfl⟩
  have HD := Lib.hid hD
  have HR := Lib.hid hR
  have HI := Lib.hid hI
  have HV := Lib.hid hV
  have HF := Lib.hid hF
  have HS4 := Lib.hid hS4
  have HPT := Lib.hid hpT
  have HL := Lib.hid (show F.f.length = 8 by rw [hF]; exact rdPatch_len _)
  have HM := Lib.hid (show F.mask < 4294967296 by rw [hF]; have := (rdPatch_mask (cmE' st)).1; omega)
  have HSZ := Lib.hid (show ∀ x ∈ F.f, x.s.length ≤ 4294967000 by rw [hF]; exact rdPatch_sizes _)
  have hcase : ((rdPatch' S4).e = 0 ∧ F.code = 0) ∨ (rdPatch' S4).e ≠ 0 := by
    by_cases h0 : (rdPatch' S4).e = 0
    · left; rw [hF, ← hS4]; exact ⟨h0, (rdPatch_took h0).2.1⟩
    · exact .inr h0
  rw [← hD, ← hR, ← hI, ← hV, ← hF, ← hS4]
  clear hD hR hI hV hF hS4 hT hqT hpT
  go_enter Tryd.func74, Tryd.ntmps74
  go_wp2_with (fail)
  refine (c_cmdwire_request p st q c A n _ hw.out E.out.rd E.out.blk E.out.low).mono ?_
  rintro e w1 ⟨rfl, he⟩
  rw [← HD.out, ← HR.out] at he
  replace E := Lib.hid (E.out.calls he)
  replace hw := Lib.hid (show Cmd.wf { c with dev := D, req := R } from ⟨hw.out.e, hw.out.p⟩)
  clear he
  go_wp2_with (fail)
  refine (c_cmdwire_above p _ 1073741823 _ E.out.rd).mono ?_
  rintro e w2 ⟨rfl, hr2, hk2⟩
  replace E := Lib.hid ((E.out.call hr2 hk2).state (show _ = cmD' st from rfl))
  rw [show rdN (rdAb' (rdN' st 5) 1099511627776) 1073741823 = I from HI.out.symm]
  clear hr2 hk2
  obtain ⟨q0, q1, q2, q3, q4, q5, q6, q7⟩ := cmd_cells hw.out E.out.blk; have ff := fun i => E.out.blk.frozen i; have hlt1 := E.out.blk.lt
  go_wp2_with (fail)
  clear q0 q1 q2 q3 q4 q5 q6 q7 ff hlt1
  replace E := Lib.hid ((E.out.store 32 (.int .i64 I)).as (show _ = Cmd.arr { c with dev := D, req := R, id := I } A n by have := Cmd.setI hw.out (A := A) (n := n) 2 (by omega) I; simpa using this))
  replace hw := Lib.hid (show Cmd.wf { c with dev := D, req := R, id := I } from ⟨hw.out.e, hw.out.p⟩)
  refine (c_cmdwire_above p _ 1099511627776 _ E.out.rd).mono ?_
  rintro e w3 ⟨rfl, hr3, hk3⟩
  rw [← HV.out]
  replace E := Lib.hid ((E.out.call hr3 hk3).state (show _ = S4 from HS4.out.symm))
  clear hr3 hk3
  obtain ⟨q0, q1, q2, q3, q4, q5, q6, q7⟩ := cmd_cells hw.out E.out.blk; have ff := fun i => E.out.blk.frozen i; have hlt1 := E.out.blk.lt
  go_wp2_with (fail)
  clear q0 q1 q2 q3 q4 q5 q6 q7 ff hlt1
  replace E := Lib.hid ((E.out.store 33 (.int .i64 V)).as (show _ = Cmd.arr { c with dev := D, req := R, id := I, base := V } A n by have := Cmd.setI hw.out (A := A) (n := n) 3 (by omega) V; simpa using this))
  replace hw := Lib.hid (show Cmd.wf { c with dev := D, req := R, id := I, base := V } from ⟨hw.out.e, hw.out.p⟩)
  have hT4 : Tab (w3.setCell ⟨q, 33, none⟩ (.int .i64 V)) := fun j hj => by
    obtain ⟨t, ht⟩ : ∃ o, w.heap[0]? = some o := ⟨_, Array.getElem?_eq_getElem HT.out.lt⟩
    have h1 := E.out.kept.block _ HT.out.lt HPT.out (fun e => HQT.out e.symm)
    exact (World.cell?_of_block (w := w) (a := ⟨0, j, none⟩) h1).trans (HT.out j hj)
  have HT4 := Lib.hid hT4
  clear hT4
  refine (c_cardwire_Patch p S4 _ HT4.out E.out.rd).mono ?_
  rintro e w4 ⟨rfl, hr4, hk4⟩
  rw [show rdPatch S4 = F by rw [HF.out, HS4.out]]
  replace E := Lib.hid (E.out.call hr4 hk4)
  clear hr4 hk4
  go_wp2_with (with_reducible refine stop_store 27 (.tmp 21) (.tmp 19) rfl rfl ?_)
  refine Stop.mk (wpList_storeAt rfl _ _ _ rfl q 35 F.arr rfl rfl _ E.out.blk strP (by rw [Patch.arr_size, HL.out]) (by rw [Patch.arr_size, HL.out, Cmd.arr_size hw.out]; decide) (Patch.arr_one _) ?_)
  intro w5 hb5 hk5
  replace E := Lib.hid (E.out.put (show Blk w5 q (Cmd.arr { c with dev := D, req := R, id := I, base := V, p := F } A n) by rw [← Cmd.putP hw.out F HL.out]; exact hb5) hk5)
  replace hw := Lib.hid (show Cmd.wf { c with dev := D, req := R, id := I, base := V, p := F } from ⟨hw.out.e, HL.out⟩)
  clear hb5 hk5
  go_wp2_with (with_reducible refine stop_loadG 27 (.tmp 24) rfl ?_)
  refine Stop.mk (wpList_loadAtG (by rfl) _ _ rfl q 35 rfl F.arr (cmd_patch hw.out E.out.blk) strP (by rw [Patch.arr_size, HL.out]) ?_)
  go_wp2_with (fail)
  refine (c_card_CheckPatch F _ HM.out HL.out HSZ.out).mono ?_
  rintro e w6 ⟨rfl, hb6⟩
  replace E := Lib.hid (E.out.below hb6)
  clear hb6
  by_cases hc : F.code = 0
  · have j : (F.code != 0) = false := by simpa using hc
    clear hc hcase
    go_wp2_with (fail)
    go_end0
    exact ⟨rfl, E.out⟩
  · have j : (F.code != 0) = true := by simpa using hc
    have HE := Lib.hid (show (rdPatch' S4).e ≠ 0 by
      rcases hcase with ⟨_, h⟩ | h
      · exact absurd h hc
      · exact h)
    clear hc hcase
    go_wp2_with (fail)
    refine (c_octet_Fail p _ 3 _ E.out.rd).mono ?_
    rintro e w7 ⟨rfl, hr7, hk7⟩
    replace E := Lib.hid ((E.out.call hr7 hk7).state (rdF_err HE.out))
    clear hr7 hk7
    go_wp2_with (fail)
    go_end0
    exact ⟨rfl, E.out⟩
set_option maxHeartbeats 2000000 in
set_option maxRecDepth 4000 in
theorem c_cmdwire_subscribe (p : Option Nat) (st : Rd) (q : Nat) (c : Cmd) (A : Option Addr) (n : Nat) (w : World) (hwf : c.wf) (r : RdP w p st) (b : Blk w q (c.arr A n)) (low : ∀ g, p = some g → g < q) :
    Calls Tryd.prog 75 #[ptr p, .pointer (some ⟨q, 0, none⟩)] w (fun e w' => ∃ B m, RetQ p (rdN' (rdPred' (rqS st)) 511) q (Cmd.arr { c with dev := rdN st 5, req := rdN (rdN' st 5) 1099511627776, f := rdPred (rqS st), mask := (rdN (rdPred' (rqS st)) 511).toNat } B m) w e w' ∧
      w'.ownsRow w.heap.size 132 5 (.slice B (rdPred (rqS st)).length m) (rdPred (rqS st)).length ((rdPred (rqS st)).flatMap Node.cells)) := by
  have E := Lib.hid (EnvQ.start r b low)
  have hw := Lib.hid hwf
  have hlt := E.out.lt
  clear r b low hwf
  obtain ⟨D, hD⟩ : ∃ D, D = rdN st 5 := ⟨_, rfl⟩
  obtain ⟨R, hR⟩ : ∃ D, D = rdN (rdN' st 5) 1099511627776 := ⟨_, rfl⟩
  obtain ⟨F, hF⟩ : ∃ D, D = rdPred (rqS st) := ⟨_, rfl⟩
  have hmb := rdN_bd (rdPred' (rqS st)) 511
  obtain ⟨M, hM⟩ : ∃ D : Nat, (D : Int) = rdN (rdPred' (rqS st)) 511 := ⟨(rdN (rdPred' (rqS st)) 511).toNat, by omega⟩
  rw [← hM] at hmb
  have hmi : IntKind.u32.wrap (M : Int) = (M : Int) := by rw [wrap_u32']; omega
  have HD := Lib.hid hD
  have HR := Lib.hid hR
  have HF := Lib.hid hF
  have HM := Lib.hid hM
  rw [← hD, ← hR, ← hF, ← hM, Int.toNat_natCast]
  clear hD hR hF hM
  go_enter Tryd.func75, Tryd.ntmps75
  go_wp2_with (fail)
  refine (c_cmdwire_request p st q c A n _ hw.out E.out.rd E.out.blk E.out.low).mono ?_
  rintro e w1 ⟨rfl, he⟩
  rw [← HD.out, ← HR.out] at he
  replace E := Lib.hid (E.out.calls he)
  replace hw := Lib.hid (show Cmd.wf { c with dev := D, req := R } from ⟨hw.out.e, hw.out.p⟩)
  clear he
  go_wp2_with (fail)
  refine (c_predwire_Read p (rqS st) _ E.out.rd).mono ?_
  rintro e w2 ⟨v2, rfl, own2, hr2, hk2⟩
  rw [← HF.out] at own2
  have hz := E.out.size
  replace E := Lib.hid (E.out.call hr2 hk2)
  obtain ⟨B, m, rfl, -⟩ := own_form own2
  have O := Lib.hid (own_base own2 hz)
  clear hr2 hk2 own2 hz
  obtain ⟨q0, q1, q2, q3, q4, q5, q6, q7⟩ := cmd_cells hw.out E.out.blk; have ff := fun i => E.out.blk.frozen i; have hlt1 := E.out.blk.lt
  go_wp2_with (fail)
  clear q0 q1 q2 q3 q4 q5 q6 q7 ff hlt1
  have K1 := Lib.hid (kept_set w2 q 61 (.slice B F.length m))
  replace O := Lib.hid (own_kept O.out K1.out (fun g hg => by injection hg with hg; omega))
  replace E := Lib.hid ((E.out.store 61 (.slice B F.length m)).as (show _ = Cmd.arr { c with dev := D, req := R, f := F } B m from Cmd.setF hw.out B F m))
  replace hw := Lib.hid (show Cmd.wf { c with dev := D, req := R, f := F } from ⟨hw.out.e, hw.out.p⟩)
  clear K1
  refine (c_octet_RNum p _ 511 _ E.out.rd).mono ?_
  rintro e w3 ⟨rfl, hr3, hk3⟩
  rw [← HM.out]
  have hz3 := E.out.size
  replace O := Lib.hid (own_kept O.out hk3 (fun g hg => by have := E.out.low g hg; omega))
  replace E := Lib.hid (E.out.call hr3 hk3)
  clear hr3 hk3 hz3
  obtain ⟨q0, q1, q2, q3, q4, q5, q6, q7⟩ := cmd_cells hw.out E.out.blk; have ff := fun i => E.out.blk.frozen i; have hlt1 := E.out.blk.lt
  go_wp2_with (fail)
  clear q0 q1 q2 q3 q4 q5 q6 q7 ff hlt1
  have K2 := Lib.hid (kept_set w3 q 62 (.int .u32 M))
  replace O := Lib.hid (own_kept O.out K2.out (fun g hg => by injection hg with hg; omega))
  replace E := Lib.hid ((E.out.store 62 (.int .u32 M)).as (show _ = Cmd.arr { c with dev := D, req := R, f := F, mask := M } B m from Cmd.setM hw.out M))
  go_end0
  exact ⟨B, m, ⟨rfl, E.out⟩, O.out⟩
end Go.Proofs.YtjhndilflcigiaaDoor
