/-
  Lemmas (walks and plain laws), in one text.
-/
import Derived.Test.YtjhndilflcigiaaDoorQb16
import Derived.Test.YtjhndilflcigiaaDoorRows
import Derived.WalkKit
import Derived.WalkSpells
import Derived.WalkLawsBesides
import Derived.Lib.Hide
import Derived.Deep.QuietTactic
import Derived.BigQuiet
import Derived.Maps.AppendAt
import Derived.WalkSmall
import Derived.ProofKit
import Derived.OpenShut
import Derived.JoinedCond
import Derived.Deep.Slices
import Derived.Deep.Fields
import Derived.Carry
import Derived.Deep.AppendSrc
import Derived.Lib.AppendStr
import Derived.Laws.BytesArg
import Derived.Test.YtjhndilflcigiaaDoorProg
import Derived.Shelf.Spec.TrailingZeros
import Derived.RangeFuncNested
import Derived.RangeFuncBound
import Derived.RangeFuncCalls
import Derived.RangeFuncLeaves
import Derived.Shelf.Abstract
import Derived.Shelf.RegionOpen
import Derived.OwnWalkIn
import Derived.TacticsInMore
import Derived.LoopNIn
import Derived.LoopIn
import Derived.Test.YtjhndilflcigiaaDoorTie
import Derived.Lib.LaidTab
import Derived.LaidMore
import Derived.SevenTiedAt
import Derived.Test.YtjhndilflcigiaaDoorCards
import Derived.Laws.Tables
import Derived.Laws.Rows
import Derived.Maps.Own
import Derived.Deep.CutBlock
import Derived.Deep.DeepCutAuto
import Derived.ChangeKeysEq
import Derived.Laws.StructEq
import Derived.Laws.CopyOwn
import Derived.Outline
import Derived.IntWalk
import Derived.Lib.EndianBits
import Derived.Lib.AppendZeros
import Derived.WalkMore
import Derived.StillTail
import Derived.Deep.Quiet
namespace Go.Proofs.YtjhndilflcigiaaDoor
open Go.RowKit

structure Cmd where
  kind : Int
  e : Edit
  dev : Int
  req : Int
  id : Int
  base : Int
  keep : Int
  p : Patch
  f : List Node
  mask : Nat
deriving DecidableEq
abbrev cmdz : Cmd := ⟨0, ez, 0, 0, 0, 0, 0, pz, [], 0⟩
/-- Which fields of a command are zero. -/
def Cmd.eZ (c : Cmd) : Bool := decide (c.e = ez)
def Cmd.pZ (c : Cmd) : Bool := decide (c.p = pz)
def Cmd.fZ (c : Cmd) : Bool := decide (c.f = [] ∧ c.mask = 0)
def Cmd.bare (c : Cmd) : Bool := decide (c.dev = 0 ∧ c.req = 0 ∧ c.id = 0 ∧ c.base = 0 ∧ c.keep = 0) && (c.eZ && (c.pZ && c.fZ))
def Cmd.rq (c : Cmd) : Bool := decide (0 ≤ c.dev ∧ c.dev ≤ 5 ∧ 1 ≤ c.req ∧ c.req ≤ 1099511627776)
theorem Cmd.rq_iff {c : Cmd} : c.rq = true ↔ (0 ≤ c.dev ∧ c.dev ≤ 5 ∧ 1 ≤ c.req ∧ c.req ≤ 1099511627776) := by unfold Cmd.rq; exact decide_eq_true_iff
def Cmd.okEdit (c : Cmd) : Bool := ({ c with e := ez } : Cmd).bare && decide (c.e.code = 0)
def Cmd.okTrim (c : Cmd) : Bool := ({ c with keep := 0 } : Cmd).bare && decide (0 ≤ c.keep ∧ c.keep ≤ 1099511627776)
def Cmd.okPut (c : Cmd) : Bool := ({ c with dev := 0, req := 0, id := 0, base := 0, p := pz } : Cmd).bare && (decide (1 ≤ c.id ∧ c.id ≤ 1073741823 ∧ 1 ≤ c.base ∧ c.base ≤ 1099511627776) && decide (c.p.code = 0))
def Cmd.okSub (c : Cmd) : Bool := ({ c with dev := 0, req := 0, f := [], mask := 0 } : Cmd).bare && decide (check c.f = 0 ∧ c.mask < 512)
def Cmd.okLeave (c : Cmd) : Bool := ({ c with dev := 0, req := 0 } : Cmd).bare
def Cmd.ok (c : Cmd) : Bool :=
  if c.kind = 1 then c.okEdit else if c.kind = 5 then c.okTrim
  else if c.kind = 2 then c.rq && c.okPut else if c.kind = 3 then c.rq && c.okSub else if c.kind = 4 then c.rq && c.okLeave else false
theorem Cmd.ok_1 {c : Cmd} (h : c.kind = 1) : c.ok = c.okEdit := by unfold Cmd.ok; rw [if_pos h]
theorem Cmd.ok_5 {c : Cmd} (h : c.kind = 5) : c.ok = c.okTrim := by unfold Cmd.ok; rw [if_neg (by omega), if_pos h]
theorem Cmd.ok_2 {c : Cmd} (h : c.kind = 2) : c.ok = (c.rq && c.okPut) := by unfold Cmd.ok; rw [if_neg (by omega), if_neg (by omega), if_pos h]
theorem Cmd.ok_3 {c : Cmd} (h : c.kind = 3) : c.ok = (c.rq && c.okSub) := by unfold Cmd.ok; rw [if_neg (by omega), if_neg (by omega), if_neg (by omega), if_pos h]
theorem Cmd.ok_4 {c : Cmd} (h : c.kind = 4) : c.ok = (c.rq && c.okLeave) := by unfold Cmd.ok; rw [if_neg (by omega), if_neg (by omega), if_neg (by omega), if_neg (by omega), if_pos h]
theorem Cmd.ok_no {c : Cmd} (h : ¬ (1 ≤ c.kind ∧ c.kind ≤ 5)) : c.ok = false := by unfold Cmd.ok; rw [if_neg (by omega), if_neg (by omega), if_neg (by omega), if_neg (by omega), if_neg (by omega)]
theorem Cmd.ok_kind {c : Cmd} (h : c.ok = true) : 1 ≤ c.kind ∧ c.kind ≤ 5 := by
  rcases Classical.em (1 ≤ c.kind ∧ c.kind ≤ 5) with h' | h'
  · exact h'
  · rw [Cmd.ok_no h'] at h; cases h
/-- A command's bytes. -/
def cmdT (c : Cmd) : List UInt8 :=
  if c.kind = 1 then editB c.e else if c.kind = 5 then num c.keep
  else num c.dev ++ (num c.req ++ (if c.kind = 2 then num c.id ++ (num c.base ++ patchB c.p) else if c.kind = 3 then putB c.f ++ num c.mask else []))
def cmdB (c : Cmd) : List UInt8 := if c.ok then num c.kind ++ cmdT c else []
theorem cmdB_bad {c : Cmd} (h : c.ok = false) : cmdB c = [] := by unfold cmdB; rw [h]; rfl
theorem cmdB_ok {c : Cmd} (h : c.ok = true) : cmdB c = num c.kind ++ cmdT c := by unfold cmdB; rw [if_pos h]
theorem cmdT_1 {c : Cmd} (h : c.kind = 1) : cmdT c = editB c.e := by unfold cmdT; rw [if_pos h]
theorem cmdT_5 {c : Cmd} (h : c.kind = 5) : cmdT c = num c.keep := by unfold cmdT; rw [if_neg (by omega), if_pos h]
theorem cmdT_2 {c : Cmd} (h : c.kind = 2) : cmdT c = num c.dev ++ (num c.req ++ (num c.id ++ (num c.base ++ patchB c.p))) := by unfold cmdT; rw [if_neg (by omega), if_neg (by omega), if_pos h]
theorem cmdT_3 {c : Cmd} (h : c.kind = 3) : cmdT c = num c.dev ++ (num c.req ++ (putB c.f ++ num c.mask)) := by unfold cmdT; rw [if_neg (by omega), if_neg (by omega), if_neg (by omega), if_pos h]
theorem cmdT_4 {c : Cmd} (h : c.kind = 4) : cmdT c = num c.dev ++ num c.req := by unfold cmdT; rw [if_neg (by omega), if_neg (by omega), if_neg (by omega), if_neg (by omega), List.append_nil]
/-! What is read as a command. -/
def cmK (st : Rd) : Int := rdN st 5
def cmA (st : Rd) : Rd := rdAb' st 5
def cmB (st : Rd) : Rd := rdN' (cmA st) 5
def cmC (st : Rd) : Rd := rdAb' (cmB st) 1099511627776
def cmD (st : Rd) : Rd := rdAb' (cmC st) 1073741823
def cmE (st : Rd) : Rd := rdAb' (cmD st) 1099511627776
def cmF (st : Rd) : Rd := rdPred' (cmC st)
def rdCmdRaw' (st : Rd) : Rd :=
  if cmK st = 1 then rdEdit' (cmA st) else if cmK st = 5 then rdN' (cmA st) 1099511627776
  else if cmK st = 2 then rdPatch' (cmE st) else if cmK st = 3 then rdN' (cmF st) 511 else cmC st
def rdCmdRaw (st : Rd) : Cmd :=
  if cmK st = 1 then { cmdz with kind := 1, e := rdEdit (cmA st) } else if cmK st = 5 then { cmdz with kind := 5, keep := rdN (cmA st) 1099511627776 }
  else if cmK st = 2 then { cmdz with kind := 2, dev := rdN (cmA st) 5, req := rdN (cmB st) 1099511627776, id := rdN (cmC st) 1073741823, base := rdN (cmD st) 1099511627776, p := rdPatch (cmE st) }
  else if cmK st = 3 then { cmdz with kind := 3, dev := rdN (cmA st) 5, req := rdN (cmB st) 1099511627776, f := rdPred (cmC st), mask := (rdN (cmF st) 511).toNat }
  else { cmdz with kind := cmK st, dev := rdN (cmA st) 5, req := rdN (cmB st) 1099511627776 }
@[irreducible] def rdCmd' (st : Rd) : Rd := rdCmdRaw' st
@[irreducible] def rdCmd (st : Rd) : Cmd := if (rdCmdRaw' st).e = 0 then rdCmdRaw st else cmdz
theorem rdCmd'_def (st : Rd) : rdCmd' st = rdCmdRaw' st := by unfold rdCmd'; rfl
theorem rdCmd_ok {st : Rd} (h : (rdCmd' st).e = 0) : rdCmd st = rdCmdRaw st := by rw [rdCmd'_def] at h; unfold rdCmd; rw [if_pos h]
theorem rdCmd_bad {st : Rd} (h : (rdCmd' st).e ≠ 0) : rdCmd st = cmdz := by rw [rdCmd'_def] at h; unfold rdCmd; rw [if_neg h]
theorem cm_1 {st : Rd} (h : cmK st = 1) : rdCmd' st = rdEdit' (cmA st) ∧ rdCmdRaw st = { cmdz with kind := 1, e := rdEdit (cmA st) } := by
  rw [rdCmd'_def]; unfold rdCmdRaw' rdCmdRaw; rw [if_pos h, if_pos h]; exact ⟨rfl, rfl⟩
theorem cm_5 {st : Rd} (h : cmK st = 5) : rdCmd' st = rdN' (cmA st) 1099511627776 ∧ rdCmdRaw st = { cmdz with kind := 5, keep := rdN (cmA st) 1099511627776 } := by
  rw [rdCmd'_def]; unfold rdCmdRaw' rdCmdRaw; rw [if_neg (by omega), if_pos h, if_neg (by omega), if_pos h]; exact ⟨rfl, rfl⟩
theorem cm_2 {st : Rd} (h : cmK st = 2) : rdCmd' st = rdPatch' (cmE st) ∧ rdCmdRaw st = { cmdz with kind := 2, dev := rdN (cmA st) 5, req := rdN (cmB st) 1099511627776, id := rdN (cmC st) 1073741823, base := rdN (cmD st) 1099511627776, p := rdPatch (cmE st) } := by
  rw [rdCmd'_def]; unfold rdCmdRaw' rdCmdRaw; rw [if_neg (by omega), if_neg (by omega), if_pos h, if_neg (by omega), if_neg (by omega), if_pos h]; exact ⟨rfl, rfl⟩
theorem cm_3 {st : Rd} (h : cmK st = 3) : rdCmd' st = rdN' (cmF st) 511 ∧ rdCmdRaw st = { cmdz with kind := 3, dev := rdN (cmA st) 5, req := rdN (cmB st) 1099511627776, f := rdPred (cmC st), mask := (rdN (cmF st) 511).toNat } := by
  rw [rdCmd'_def]; unfold rdCmdRaw' rdCmdRaw; rw [if_neg (by omega), if_neg (by omega), if_neg (by omega), if_pos h, if_neg (by omega), if_neg (by omega), if_neg (by omega), if_pos h]; exact ⟨rfl, rfl⟩
theorem cm_4 {st : Rd} (h : cmK st = 0 ∨ cmK st = 4) : rdCmd' st = cmC st ∧ rdCmdRaw st = { cmdz with kind := cmK st, dev := rdN (cmA st) 5, req := rdN (cmB st) 1099511627776 } := by
  rw [rdCmd'_def]; unfold rdCmdRaw' rdCmdRaw
  rw [if_neg (by omega), if_neg (by omega), if_neg (by omega), if_neg (by omega), if_neg (by omega), if_neg (by omega), if_neg (by omega), if_neg (by omega)]; exact ⟨rfl, rfl⟩
theorem cmK_cases (st : Rd) : cmK st = 0 ∨ cmK st = 1 ∨ cmK st = 2 ∨ cmK st = 3 ∨ cmK st = 4 ∨ cmK st = 5 := by have := rdN_bd st 5; unfold cmK; omega
theorem cmA_err {st : Rd} (h : (cmA st).e ≠ 0) : cmB st = cmA st ∧ cmC st = cmA st := by
  have h1 : cmB st = cmA st := (rdN_err h).2
  exact ⟨h1, by unfold cmC; rw [h1]; exact rdAb'_bad h⟩
/-- Without a kind there is an error. -/
theorem cmK_zero {st : Rd} (h : cmK st = 0) : (cmA st).e ≠ 0 := by unfold cmA; rw [rdAb'_zero h]; exact rdF_bad _ (by decide)
theorem cm_0 {st : Rd} (h : cmK st = 0) : rdCmd' st = cmA st ∧ rdCmd st = cmdz := by
  have h1 := cmK_zero h
  have h2 : rdCmd' st = cmA st := by rw [(cm_4 (.inl h)).1, (cmA_err h1).2]
  exact ⟨h2, rdCmd_bad (by rw [h2]; exact h1)⟩
theorem rdCmd_err {st : Rd} (h : st.e ≠ 0) : rdCmd st = cmdz ∧ rdCmd' st = st := by
  have h0 : cmK st = 0 := (rdN_err h).1
  obtain ⟨a, b⟩ := cm_0 h0
  exact ⟨b, by rw [a]; exact rdAb'_bad h⟩
theorem rdCmd_len (st : Rd) : (rdCmd st).e.p.f.length = 8 ∧ (rdCmd st).p.f.length = 8 := by
  unfold rdCmd rdCmdRaw
  repeat' split
  all_goals first
    | exact ⟨rdEdit_len _, rfl⟩
    | exact ⟨rfl, rdPatch_len _⟩
    | exact ⟨rfl, rfl⟩
end Go.Proofs.YtjhndilflcigiaaDoor
namespace Go.Proofs.YtjhndilflcigiaaDoor
open Go.RowKit

set_option maxHeartbeats 1000000 in
theorem c_edit_hasG (k : Int) (w : World) (h1 : 0 ≤ k) (h2 : k ≤ 7) : Calls Tryd.prog 94 #[.int .i64 k, .int .i64 1] w (RetV w (.bool (hasG k))) := by
  rcases kind8 h1 h2 with rfl | rfl | rfl | rfl | rfl | rfl | rfl | rfl
  all_goals
    go_enter Tryd.func94, Tryd.ntmps94
    go_wp2
    go_ret
    exact RetV.bool (by decide) (Below.refl _ _)
set_option maxHeartbeats 1000000 in
theorem c_edit_hasI (k : Int) (w : World) (h1 : 0 ≤ k) (h2 : k ≤ 7) : Calls Tryd.prog 94 #[.int .i64 k, .int .i64 2] w (RetV w (.bool (hasI k))) := by
  rcases kind8 h1 h2 with rfl | rfl | rfl | rfl | rfl | rfl | rfl | rfl
  all_goals
    go_enter Tryd.func94, Tryd.ntmps94
    go_wp2
    go_ret
    exact RetV.bool (by decide) (Below.refl _ _)
set_option maxHeartbeats 1000000 in
theorem c_edit_hasP (k : Int) (w : World) (h1 : 0 ≤ k) (h2 : k ≤ 7) : Calls Tryd.prog 94 #[.int .i64 k, .int .i64 4] w (RetV w (.bool (hasP k))) := by
  rcases kind8 h1 h2 with rfl | rfl | rfl | rfl | rfl | rfl | rfl | rfl
  all_goals
    go_enter Tryd.func94, Tryd.ntmps94
    go_wp2
    go_ret
    exact RetV.bool (by decide) (Below.refl _ _)
/-- What is asked for: 1 a group, 2 an ID, 4 a patch. -/
def hasW (k x : Int) : Bool := if x = 1 then hasG k else if x = 2 then hasI k else hasP k
theorem c_edit_has (k x : Int) (w : World) (h1 : 0 ≤ k) (h2 : k ≤ 7) (hx : x = 1 ∨ x = 2 ∨ x = 4) : Calls Tryd.prog 94 #[.int .i64 k, .int .i64 x] w (RetV w (.bool (hasW k x))) := by
  rcases hx with rfl | rfl | rfl
  · exact c_edit_hasG k w h1 h2
  · exact c_edit_hasI k w h1 h2
  · exact c_edit_hasP k w h1 h2
set_option maxHeartbeats 1000000 in
theorem c_ref19_group (k : Int) (w : World) (h1 : 0 ≤ k) (h2 : k ≤ 7) : Calls Tryd.prog 100 #[.int .i64 k] w (RetV w (.bool (hasG k))) := by
  rcases kind8 h1 h2 with rfl | rfl | rfl | rfl | rfl | rfl | rfl | rfl
  all_goals
    go_enter Tryd.func100, Tryd.ntmps100
    go_wp2
    go_ret
    exact RetV.bool (by decide) (Below.refl _ _)
set_option maxHeartbeats 1000000 in
theorem c_ref19_id (k : Int) (w : World) (h1 : 0 ≤ k) (h2 : k ≤ 7) : Calls Tryd.prog 101 #[.int .i64 k] w (RetV w (.bool (hasI k))) := by
  rcases kind8 h1 h2 with rfl | rfl | rfl | rfl | rfl | rfl | rfl | rfl
  all_goals
    go_enter Tryd.func101, Tryd.ntmps101
    go_wp2
    go_ret
    exact RetV.bool (by decide) (Below.refl _ _)
set_option maxHeartbeats 1000000 in
theorem c_ref19_patch (k : Int) (w : World) (h1 : 0 ≤ k) (h2 : k ≤ 7) : Calls Tryd.prog 102 #[.int .i64 k] w (RetV w (.bool (hasP k))) := by
  rcases kind8 h1 h2 with rfl | rfl | rfl | rfl | rfl | rfl | rfl | rfl
  all_goals
    go_enter Tryd.func102, Tryd.ntmps102
    go_wp2
    go_ret
    exact RetV.bool (by decide) (Below.refl _ _)
end Go.Proofs.YtjhndilflcigiaaDoor
namespace Go.Proofs.YtjhndilflcigiaaDoor
open Go.RowKit

section
variable {P : Program} {w : World}
theorem stop_bin {ops : Array Oper} {rest : List Oper} {o : Oper} {a : Act} {Q : Exit → Act → World → Prop} (op : BinOp) (ty : TypeId) (x y : Operand) (ty2 : TypeId) (_ : o.op = .binOp op ty x y ty2) (h : Stop (wpList P ops Q (o :: rest) a w)) : wpList P ops Q (o :: rest) a w := h
theorem wpList_neqS {ops : Array Oper} {rest : List Oper} {o : Oper} {a : Act} {Q : Exit → Act → World → Prop} (hw : Region.wanted o (yielded ops a.tmps) = true) (ty : TypeId) (x y : Operand) (ty2 : TypeId) (ho : o.op = .binOp .neq ty x y ty2)
    (xs ys : Array Value) (hx : a.eval x = .agg xs) (hy : a.eval y = .agg ys) (hg : P.eqGuardType P.depth ty = false) (b : Bool) (he : (Op.equalIn 10000 ty (.agg xs) (.agg ys)).run P w = .ok b w)
    (h : wpList P ops Q rest (a.put o.dst (.bool (!b))) w) : wpList P ops Q (o :: rest) a w := by
  refine wpList_g hw fun K hK => ?_
  unfold Oper.wp execOp
  simp only [ho, hx, hy, Sem.run_bind, Sem.run_pure, Result.andThen_ok, run_eqGuard_agg w _ _ _ _ _ _ hg, run_neq_struct, he]
  exact hK _ _ h
theorem wpList_eqlS {ops : Array Oper} {rest : List Oper} {o : Oper} {a : Act} {Q : Exit → Act → World → Prop} (hw : Region.wanted o (yielded ops a.tmps) = true) (ty : TypeId) (x y : Operand) (ty2 : TypeId) (ho : o.op = .binOp .eql ty x y ty2)
    (xs ys : Array Value) (hx : a.eval x = .agg xs) (hy : a.eval y = .agg ys) (hg : P.eqGuardType P.depth ty = false) (b : Bool) (he : (Op.equalIn 10000 ty (.agg xs) (.agg ys)).run P w = .ok b w)
    (h : wpList P ops Q rest (a.put o.dst (.bool b)) w) : wpList P ops Q (o :: rest) a w := by
  refine wpList_g hw fun K hK => ?_
  unfold Oper.wp execOp
  simp only [ho, hx, hy, Sem.run_bind, Sem.run_pure, Result.andThen_ok, run_eqGuard_agg w _ _ _ _ _ _ hg, run_eql_struct, he]
  exact hK _ _ h
end
theorem gP : Tryd.prog.eqGuardType Tryd.prog.depth 27 = false := by kernel_rfl
theorem gE : Tryd.prog.eqGuardType Tryd.prog.depth 29 = false := by kernel_rfl
end Go.Proofs.YtjhndilflcigiaaDoor
namespace Go.Proofs.YtjhndilflcigiaaDoor
open Go.RowKit

/-- A world behind the making of one block, in which that block is as it was made. -/
def At (w w' : World) (cs : Array Value) : Prop := Below w.heap.size w w' ∧ Blk w' w.heap.size cs
theorem At.new (w : World) (t : TypeId) (cs : Array Value) : At w (w.alloc (.cells cs t)) cs := ⟨(Below.refl _ _).alloc (Nat.le_refl _) _, Blk.new _ _ _⟩
theorem At.step {w w1 w2 : World} {cs : Array Value} (h : At w w1 cs) (hb : Below w1.heap.size w1 w2) : At w w2 cs := ⟨h.1.trans (hb.mono h.1.size), h.2.below hb h.2.lt⟩
theorem At.alloc {w w1 : World} {cs : Array Value} (h : At w w1 cs) (o : Obj) : At w (w1.alloc o) cs := h.step ((Below.refl _ _).alloc (Nat.le_refl _) o)
end Go.Proofs.YtjhndilflcigiaaDoor
namespace Go.Proofs.YtjhndilflcigiaaDoor
open Go.RowKit

theorem At.edit {w w1 : World} {e : Edit} (h : At w w1 e.arr) : w1.cell? ⟨w.heap.size, 0, none⟩ = some (.int .i64 e.kind) ∧ w1.cell? ⟨w.heap.size, 1, none⟩ = some (.int .i64 e.id) ∧ w1.cell? ⟨w.heap.size, 2, none⟩ = some (.int .i64 e.group) := by
  obtain ⟨h0, h1, h2⟩ := e.arr_head
  exact ⟨h.2.cell h0, h.2.cell h1, h.2.cell h2⟩
theorem gOk_bad {e : Edit} (h : ¬ e.gOk = true) : (e.group < 0) ∨ (0 ≤ e.group ∧ 16 ≤ e.group) ∨ (0 < e.group ∧ e.group < 16 ∧ hasG e.kind = false) := by
  unfold Edit.gOk at h
  cases hh : hasG e.kind
  all_goals
    rw [hh] at h
    simp only [Bool.and_eq_true, Bool.or_eq_true, decide_eq_true_eq, Bool.false_eq_true, false_or, true_or, and_true] at h
  · have : (e.group < 0) ∨ (0 ≤ e.group ∧ 16 ≤ e.group) ∨ (0 < e.group ∧ e.group < 16) := by omega
    rcases this with a | a | ⟨a, b⟩
    · exact .inl a
    · exact .inr (.inl a)
    · exact .inr (.inr ⟨a, b, rfl⟩)
  · have : (e.group < 0) ∨ (0 ≤ e.group ∧ 16 ≤ e.group) := by omega
    rcases this with a | a
    · exact .inl a
    · exact .inr (.inl a)
theorem gOk_ok {e : Edit} (h : e.gOk = true) : 0 ≤ e.group ∧ e.group < 16 ∧ (e.group = 0 ∨ (0 < e.group ∧ hasG e.kind = true)) := by
  unfold Edit.gOk at h
  cases hh : hasG e.kind
  all_goals
    rw [hh] at h
    simp only [Bool.and_eq_true, Bool.or_eq_true, decide_eq_true_eq, Bool.false_eq_true, false_or, true_or, and_true] at h
  · exact ⟨h.1.1, h.1.2, .inl h.2⟩
  · refine ⟨h.1, h.2, ?_⟩
    by_cases h0 : e.group = 0
    · exact .inl h0
    · exact .inr ⟨by omega, rfl⟩
theorem iOk_bad {e : Edit} (h : ¬ e.iOk = true) : (hasI e.kind = true ∧ e.id < 1) ∨ (hasI e.kind = true ∧ 1 ≤ e.id ∧ 1073741824 ≤ e.id) ∨ (hasI e.kind = false ∧ e.id ≠ 0) := by
  unfold Edit.iOk at h
  cases hh : hasI e.kind
  · rw [hh] at h
    exact .inr (.inr ⟨rfl, by simpa using h⟩)
  · rw [hh] at h
    simp only [if_true, decide_eq_true_eq] at h
    have : e.id < 1 ∨ (1 ≤ e.id ∧ 1073741824 ≤ e.id) := by omega
    rcases this with a | a
    · exact .inl ⟨rfl, a⟩
    · exact .inr (.inl ⟨rfl, a⟩)
theorem iOk_ok {e : Edit} (h : e.iOk = true) : (hasI e.kind = true ∧ 1 ≤ e.id ∧ e.id < 1073741824) ∨ (hasI e.kind = false ∧ e.id = 0) := by
  unfold Edit.iOk at h
  cases hh : hasI e.kind
  · rw [hh] at h
    exact .inr ⟨rfl, by simpa using h⟩
  · rw [hh] at h
    simp only [if_true, decide_eq_true_eq] at h
    exact .inl ⟨rfl, h⟩
set_option maxHeartbeats 1000000 in
theorem edit_Check_kind (e : Edit) (w : World) (hk : ¬ (1 ≤ e.kind ∧ e.kind ≤ 7)) : Calls Tryd.prog 90 #[.agg e.arr] w (RetV w (.int .i64 e.code)) := by
  have E := Lib.hid (Edit.code_kind hk)
  have BC := Lib.hid (At.new w 29 e.arr)
  obtain ⟨q0, q1, q2⟩ := BC.out.edit
  have hk' : e.kind < 1 ∨ (1 ≤ e.kind ∧ 7 < e.kind) := by omega
  clear hk
  rcases hk' with hk | ⟨hk, hk2⟩
  · have k1 : decide (e.kind < 1) = true := by simpa using hk
    clear hk
    go_enter Tryd.func90, Tryd.ntmps90
    go_wp2_with (fail)
    go_ret
    exact RetV.int E.out.symm BC.out.1
  · have k1 : decide (e.kind < 1) = false := by simpa using hk
    have k2 : decide (7 < e.kind) = true := by simpa using hk2
    clear hk hk2
    go_enter Tryd.func90, Tryd.ntmps90
    go_wp2_with (fail)
    go_ret
    exact RetV.int E.out.symm BC.out.1
set_option maxHeartbeats 1000000 in
set_option maxRecDepth 4000 in
theorem edit_Check_g (e : Edit) (w : World) (h1 : 1 ≤ e.kind) (h7 : e.kind ≤ 7) (hg : ¬ e.gOk = true) : Calls Tryd.prog 90 #[.agg e.arr] w (RetV w (.int .i64 e.code)) := by
  have E := Lib.hid (Edit.code_g (by simpa using hg))
  have BC := Lib.hid (At.new w 29 e.arr)
  obtain ⟨q0, q1, q2⟩ := BC.out.edit
  have k1 : decide (e.kind < 1) = false := by simpa using h1
  have k2 : decide (7 < e.kind) = false := by simpa using h7
  rcases gOk_bad hg with hg | ⟨hg, hg2⟩ | ⟨hg, hg2, hg3⟩
  · have k3 : decide (e.group < 0) = true := by simpa using hg
    clear hg
    go_enter Tryd.func90, Tryd.ntmps90
    go_wp2_with (fail)
    go_ret
    exact RetV.int E.out.symm BC.out.1
  · have k3 : decide (e.group < 0) = false := by simpa using hg
    have k4 : decide (16 ≤ e.group) = true := by simpa using hg2
    clear hg hg2
    go_enter Tryd.func90, Tryd.ntmps90
    go_wp2_with (fail)
    go_ret
    exact RetV.int E.out.symm BC.out.1
  · have k3 : decide (e.group < 0) = false := by simp; omega
    have k4 : decide (16 ≤ e.group) = false := by simpa using hg2
    have k5 : decide (0 < e.group) = true := by simpa using hg
    have j1 : hasW e.kind 1 = false := hg3
    clear hg hg2
    go_enter Tryd.func90, Tryd.ntmps90
    go_wp2_with (go_at_call 94; refine (c_edit_has e.kind _ _ (by omega) h7 (by decide)).mono ?_; rintro e1 w1 ⟨rfl, hb1⟩; replace BC := Lib.hid (BC.out.step hb1); clear q0 q1 q2; obtain ⟨q0, q1, q2⟩ := BC.out.edit)
    go_ret
    exact RetV.int E.out.symm BC.out.1
set_option maxHeartbeats 2000000 in
set_option maxRecDepth 4000 in
theorem edit_Check_i (e : Edit) (w : World) (h1 : 1 ≤ e.kind) (h7 : e.kind ≤ 7) (hg : e.gOk = true) (hi : ¬ e.iOk = true) : Calls Tryd.prog 90 #[.agg e.arr] w (RetV w (.int .i64 e.code)) := by
  have E := Lib.hid (Edit.code_i (by simpa using hi))
  have BC := Lib.hid (At.new w 29 e.arr)
  obtain ⟨q0, q1, q2⟩ := BC.out.edit
  have k1 : decide (e.kind < 1) = false := by simpa using h1
  have k2 : decide (7 < e.kind) = false := by simpa using h7
  obtain ⟨g1, g2, g3⟩ := gOk_ok hg
  have k3 : decide (e.group < 0) = false := by simp; omega
  have k4 : decide (16 ≤ e.group) = false := by simpa using g2
  rcases g3 with g3 | ⟨g3, g4⟩
  all_goals
    first
    | (have k5 : decide (0 < e.group) = false := by simp; omega)
    | (have k5 : decide (0 < e.group) = true := by simpa using g3
       have j1 : hasW e.kind 1 = true := g4)
    clear g1 g2 g3 hg
    rcases iOk_bad hi with ⟨i1, i2⟩ | ⟨i1, i2, i3⟩ | ⟨i1, i2⟩
    all_goals
      first
      | (have k6 : decide (e.id < 1) = true := by simpa using i2
         have j2 : hasW e.kind 2 = true := i1)
      | (have k6 : decide (e.id < 1) = false := by simpa using i2
         have k7 : decide (1073741824 ≤ e.id) = true := by simpa using i3
         have j2 : hasW e.kind 2 = true := i1
         clear i3)
      | (have k6 : (e.id != 0) = true := by simpa using i2
         have j2 : hasW e.kind 2 = false := i1)
      clear i2 hi
      go_enter Tryd.func90, Tryd.ntmps90
      go_wp2_with (first
        | (go_at_call 94; refine (c_edit_has e.kind _ _ (by omega) h7 (by decide)).mono ?_; rintro e1 w1 ⟨rfl, hb1⟩; replace BC := Lib.hid (BC.out.step hb1); clear q0 q1 q2; obtain ⟨q0, q1, q2⟩ := BC.out.edit))
      go_ret
      exact RetV.int E.out.symm BC.out.1
set_option maxHeartbeats 4000000 in
set_option maxRecDepth 4000 in
theorem edit_Check_p (e : Edit) (w : World) (hf : e.p.f.length = 8) (hs : ∀ x ∈ e.p.f, x.s.length ≤ 4294967000) (hm : e.p.mask < 4294967296) (h1 : 1 ≤ e.kind) (h7 : e.kind ≤ 7) (hg : e.gOk = true) (hi : e.iOk = true) : Calls Tryd.prog 90 #[.agg e.arr] w (RetV w (.int .i64 e.code)) := by
  have E := Lib.hid (Edit.code_p h1 h7 hg hi)
  have BC := Lib.hid (At.new w 29 e.arr)
  have HF := Lib.hid hf
  have hsz : e.p.arr.size = 26 := by rw [Patch.arr_size, hf]
  have HZ := Lib.hid hsz
  clear hsz hf
  obtain ⟨q0, q1, q2⟩ := BC.out.edit
  have k1 : decide (e.kind < 1) = false := by simpa using h1
  have k2 : decide (7 < e.kind) = false := by simpa using h7
  obtain ⟨g1, g2, g3⟩ := gOk_ok hg
  have k3 : decide (e.group < 0) = false := by simp; omega
  have k4 : decide (16 ≤ e.group) = false := by simpa using g2
  rcases g3 with g3 | ⟨g3, g4⟩
  all_goals
    first
    | (have k5 : decide (0 < e.group) = false := by simp; omega)
    | (have k5 : decide (0 < e.group) = true := by simpa using g3
       have j1 : hasW e.kind 1 = true := g4)
    clear g1 g2 g3 hg
    rcases iOk_ok hi with ⟨i1, i2, i3⟩ | ⟨i1, i2⟩
    all_goals
      first
      | (have k6 : decide (e.id < 1) = false := by simpa using i2
         have k7 : decide (1073741824 ≤ e.id) = false := by simpa using i3
         have j2 : hasW e.kind 2 = true := i1
         clear i3)
      | (have k6 : (e.id != 0) = false := by simpa using i2
         have j2 : hasW e.kind 2 = false := i1)
      clear i2 hi
      cases hp : hasP e.kind
      · have j4 : hasW e.kind 4 = false := hp
        cases hz : decide (e.p = pz)
        all_goals
          go_enter Tryd.func90, Tryd.ntmps90
          go_wp2_with (first
            | (with_reducible refine stop_load 27 (.tmp 65) rfl rfl ?_)
            | (go_at_call 94; refine (c_edit_has e.kind _ _ (by omega) h7 (by decide)).mono ?_; rintro e1 w1 ⟨rfl, hb1⟩; replace BC := Lib.hid (BC.out.step hb1); clear q0 q1 q2; obtain ⟨q0, q1, q2⟩ := BC.out.edit))
          refine Stop.mk (wpList_loadAt rfl _ _ rfl w.heap.size 3 rfl e.p.arr (Edit.part BC.out.2) strP HZ.out ?_)
          go_wp2_with (with_reducible refine stop_bin .neq 27 (.tmp 66) (.tmp 67) 27 rfl ?_)
          refine Stop.mk (wpList_neqS (by rfl) _ _ _ _ rfl e.p.arr pz.arr rfl (by rw [pz_cells]; rfl) gP _ ((eq_patch HF.out rfl 9996 _).trans (by rw [hz])) ?_)
          go_wp2_with (fail)
          go_ret
          exact RetV.int (by rw [E.out, hp, if_neg (by decide)]; first | rw [if_pos (of_decide_eq_true hz)] | rw [if_neg (of_decide_eq_false hz)]) BC.out.1
      · have j4 : hasW e.kind 4 = true := hp
        go_enter Tryd.func90, Tryd.ntmps90
        go_wp2_with (first
          | (with_reducible refine stop_load 27 (.tmp 61) rfl rfl ?_)
          | (go_at_call 94; refine (c_edit_has e.kind _ _ (by omega) h7 (by decide)).mono ?_; rintro e1 w1 ⟨rfl, hb1⟩; replace BC := Lib.hid (BC.out.step hb1); clear q0 q1 q2; obtain ⟨q0, q1, q2⟩ := BC.out.edit))
        refine Stop.mk (wpList_loadAt rfl _ _ rfl w.heap.size 3 rfl e.p.arr (Edit.part BC.out.2) strP HZ.out ?_)
        go_wp2_with (go_at_call 91; refine (c_card_CheckPatch e.p _ hm HF.out hs).mono ?_; rintro e1 w1 ⟨rfl, hb1⟩; replace BC := Lib.hid (BC.out.step hb1))
        go_ret
        exact RetV.int (by rw [E.out, hp]; rfl) BC.out.1
end Go.Proofs.YtjhndilflcigiaaDoor
