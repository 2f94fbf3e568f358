/-
  Lemmas (walks and plain laws), in one text.
-/
import Derived.Test.YtjhndilflcigiaaDoorQa13
import Derived.Test.YtjhndilflcigiaaDoorRows
import Derived.WalkKit
import Derived.WalkSpells
import Derived.WalkLawsBesides
import Derived.Lib.Hide
import Derived.Deep.QuietTactic
import Derived.BigQuiet
import Derived.Maps.AppendAt
import Derived.WalkSmall
import Derived.ProofKit
import Derived.OpenShut
import Derived.JoinedCond
import Derived.Deep.Slices
import Derived.Deep.Fields
import Derived.Carry
import Derived.Deep.AppendSrc
import Derived.Lib.AppendStr
import Derived.Laws.BytesArg
import Derived.Test.YtjhndilflcigiaaDoorProg
import Derived.Shelf.Spec.TrailingZeros
import Derived.RangeFuncNested
import Derived.RangeFuncBound
import Derived.RangeFuncCalls
import Derived.RangeFuncLeaves
import Derived.Shelf.Abstract
import Derived.Shelf.RegionOpen
import Derived.OwnWalkIn
import Derived.TacticsInMore
import Derived.LoopNIn
import Derived.LoopIn
import Derived.Test.YtjhndilflcigiaaDoorTie
import Derived.Lib.LaidTab
import Derived.LaidMore
import Derived.SevenTiedAt
import Derived.Test.YtjhndilflcigiaaDoorCards
import Derived.Laws.Tables
import Derived.Laws.Rows
import Derived.ChangeKeysEq
import Derived.Laws.StructEq
import Derived.Deep.CutBlock
import Derived.Deep.DeepCutAuto
import Derived.Laws.CopyOwn
import Derived.Outline
import Derived.IntWalk
import Derived.Lib.EndianBits
import Derived.StillTail
import Derived.Lib.AppendZeros
import Derived.Deep.Quiet
namespace Go.Proofs.YtjhndilflcigiaaDoor
open Go.RowKit

structure Cmd where
  kind : Int
  e : Edit
  dev : Int
  req : Int
  id : Int
  base : Int
  keep : Int
  p : Patch
  f : List Node
  mask : Nat
deriving DecidableEq
abbrev cmdz : Cmd := ⟨0, ez, 0, 0, 0, 0, 0, pz, [], 0⟩
/-- Which fields of a command are zero. -/
def Cmd.eZ (c : Cmd) : Bool := decide (c.e = ez)
def Cmd.pZ (c : Cmd) : Bool := decide (c.p = pz)
def Cmd.fZ (c : Cmd) : Bool := decide (c.f = [] ∧ c.mask = 0)
def Cmd.bare (c : Cmd) : Bool := decide (c.dev = 0 ∧ c.req = 0 ∧ c.id = 0 ∧ c.base = 0 ∧ c.keep = 0) && (c.eZ && (c.pZ && c.fZ))
def Cmd.rq (c : Cmd) : Bool := decide (0 ≤ c.dev ∧ c.dev ≤ 5 ∧ 1 ≤ c.req ∧ c.req ≤ 1099511627776)
theorem Cmd.rq_iff {c : Cmd} : c.rq = true ↔ (0 ≤ c.dev ∧ c.dev ≤ 5 ∧ 1 ≤ c.req ∧ c.req ≤ 1099511627776) := by unfold Cmd.rq; exact decide_eq_true_iff
def Cmd.okEdit (c : Cmd) : Bool := ({ c with e := ez } : Cmd).bare && decide (c.e.code = 0)
def Cmd.okTrim (c : Cmd) : Bool := ({ c with keep := 0 } : Cmd).bare && decide (0 ≤ c.keep ∧ c.keep ≤ 1099511627776)
def Cmd.okPut (c : Cmd) : Bool := ({ c with dev := 0, req := 0, id := 0, base := 0, p := pz } : Cmd).bare && (decide (1 ≤ c.id ∧ c.id ≤ 1073741823 ∧ 1 ≤ c.base ∧ c.base ≤ 1099511627776) && decide (c.p.code = 0))
def Cmd.okSub (c : Cmd) : Bool := ({ c with dev := 0, req := 0, f := [], mask := 0 } : Cmd).bare && decide (check c.f = 0 ∧ c.mask < 512)
def Cmd.okLeave (c : Cmd) : Bool := ({ c with dev := 0, req := 0 } : Cmd).bare
def Cmd.ok (c : Cmd) : Bool :=
  if c.kind = 1 then c.okEdit else if c.kind = 5 then c.okTrim
  else if c.kind = 2 then c.rq && c.okPut else if c.kind = 3 then c.rq && c.okSub else if c.kind = 4 then c.rq && c.okLeave else false
theorem Cmd.ok_1 {c : Cmd} (h : c.kind = 1) : c.ok = c.okEdit := by unfold Cmd.ok; rw [if_pos h]
theorem Cmd.ok_5 {c : Cmd} (h : c.kind = 5) : c.ok = c.okTrim := by unfold Cmd.ok; rw [if_neg (by omega), if_pos h]
theorem Cmd.ok_2 {c : Cmd} (h : c.kind = 2) : c.ok = (c.rq && c.okPut) := by unfold Cmd.ok; rw [if_neg (by omega), if_neg (by omega), if_pos h]
theorem Cmd.ok_3 {c : Cmd} (h : c.kind = 3) : c.ok = (c.rq && c.okSub) := by unfold Cmd.ok; rw [if_neg (by omega), if_neg (by omega), if_neg (by omega), if_pos h]
theorem Cmd.ok_4 {c : Cmd} (h : c.kind = 4) : c.ok = (c.rq && c.okLeave) := by unfold Cmd.ok; rw [if_neg (by omega), if_neg (by omega), if_neg (by omega), if_neg (by omega), if_pos h]
theorem Cmd.ok_no {c : Cmd} (h : ¬ (1 ≤ c.kind ∧ c.kind ≤ 5)) : c.ok = false := by unfold Cmd.ok; rw [if_neg (by omega), if_neg (by omega), if_neg (by omega), if_neg (by omega), if_neg (by omega)]
theorem Cmd.ok_kind {c : Cmd} (h : c.ok = true) : 1 ≤ c.kind ∧ c.kind ≤ 5 := by
  rcases Classical.em (1 ≤ c.kind ∧ c.kind ≤ 5) with h' | h'
  · exact h'
  · rw [Cmd.ok_no h'] at h; cases h
/-- A command's bytes. -/
def cmdT (c : Cmd) : List UInt8 :=
  if c.kind = 1 then editB c.e else if c.kind = 5 then num c.keep
  else num c.dev ++ (num c.req ++ (if c.kind = 2 then num c.id ++ (num c.base ++ patchB c.p) else if c.kind = 3 then putB c.f ++ num c.mask else []))
def cmdB (c : Cmd) : List UInt8 := if c.ok then num c.kind ++ cmdT c else []
theorem cmdB_bad {c : Cmd} (h : c.ok = false) : cmdB c = [] := by unfold cmdB; rw [h]; rfl
theorem cmdB_ok {c : Cmd} (h : c.ok = true) : cmdB c = num c.kind ++ cmdT c := by unfold cmdB; rw [if_pos h]
theorem cmdT_1 {c : Cmd} (h : c.kind = 1) : cmdT c = editB c.e := by unfold cmdT; rw [if_pos h]
theorem cmdT_5 {c : Cmd} (h : c.kind = 5) : cmdT c = num c.keep := by unfold cmdT; rw [if_neg (by omega), if_pos h]
theorem cmdT_2 {c : Cmd} (h : c.kind = 2) : cmdT c = num c.dev ++ (num c.req ++ (num c.id ++ (num c.base ++ patchB c.p))) := by unfold cmdT; rw [if_neg (by omega), if_neg (by omega), if_pos h]
theorem cmdT_3 {c : Cmd} (h : c.kind = 3) : cmdT c = num c.dev ++ (num c.req ++ (putB c.f ++ num c.mask)) := by unfold cmdT; rw [if_neg (by omega), if_neg (by omega), if_neg (by omega), if_pos h]
theorem cmdT_4 {c : Cmd} (h : c.kind = 4) : cmdT c = num c.dev ++ num c.req := by unfold cmdT; rw [if_neg (by omega), if_neg (by omega), if_neg (by omega), if_neg (by omega), List.append_nil]
theorem editB_len' (e : Edit) : (editB e).length ≤ 353 := by
  have h1 := (num_len e.kind).2
  have h2 := (num_len e.group).2
  have h3 := (num_len e.id).2
  have h4 := patchB_len e.p
  unfold editB
  cases hasG e.kind <;> cases hasI e.kind <;> cases hasP e.kind <;> split <;> simp <;> omega
theorem cmdB_len (c : Cmd) : (cmdB c).length ≤ 2000 := by
  have h1 := (num_len c.kind).2
  have h2 := (num_len c.dev).2
  have h3 := (num_len c.req).2
  have h4 := (num_len c.id).2
  have h5 := (num_len c.base).2
  have h6 := (num_len c.keep).2
  have h7 := (num_len (c.mask : Int)).2
  have h8 := putB_len c.f
  have h9 := patchB_len c.p
  have h10 := editB_len' c.e
  unfold cmdB cmdT
  split
  · split
    · simp; omega
    · split
      · simp; omega
      · split
        · simp; omega
        · split <;> simp <;> omega
  · simp
/-! What is read as a command. -/
def cmK (st : Rd) : Int := rdN st 5
def cmA (st : Rd) : Rd := rdAb' st 5
def cmB (st : Rd) : Rd := rdN' (cmA st) 5
def cmC (st : Rd) : Rd := rdAb' (cmB st) 1099511627776
def cmD (st : Rd) : Rd := rdAb' (cmC st) 1073741823
def cmE (st : Rd) : Rd := rdAb' (cmD st) 1099511627776
def cmF (st : Rd) : Rd := rdPred' (cmC st)
def rdCmdRaw' (st : Rd) : Rd :=
  if cmK st = 1 then rdEdit' (cmA st) else if cmK st = 5 then rdN' (cmA st) 1099511627776
  else if cmK st = 2 then rdPatch' (cmE st) else if cmK st = 3 then rdN' (cmF st) 511 else cmC st
def rdCmdRaw (st : Rd) : Cmd :=
  if cmK st = 1 then { cmdz with kind := 1, e := rdEdit (cmA st) } else if cmK st = 5 then { cmdz with kind := 5, keep := rdN (cmA st) 1099511627776 }
  else if cmK st = 2 then { cmdz with kind := 2, dev := rdN (cmA st) 5, req := rdN (cmB st) 1099511627776, id := rdN (cmC st) 1073741823, base := rdN (cmD st) 1099511627776, p := rdPatch (cmE st) }
  else if cmK st = 3 then { cmdz with kind := 3, dev := rdN (cmA st) 5, req := rdN (cmB st) 1099511627776, f := rdPred (cmC st), mask := (rdN (cmF st) 511).toNat }
  else { cmdz with kind := cmK st, dev := rdN (cmA st) 5, req := rdN (cmB st) 1099511627776 }
@[irreducible] def rdCmd' (st : Rd) : Rd := rdCmdRaw' st
@[irreducible] def rdCmd (st : Rd) : Cmd := if (rdCmdRaw' st).e = 0 then rdCmdRaw st else cmdz
end Go.Proofs.YtjhndilflcigiaaDoor
namespace Go.Proofs.YtjhndilflcigiaaDoor
open Go.RowKit

set_option maxHeartbeats 1000000 in
theorem c_edit_hasG (k : Int) (w : World) (h1 : 0 ≤ k) (h2 : k ≤ 7) : Calls Tryd.prog 94 #[.int .i64 k, .int .i64 1] w (RetV w (.bool (hasG k))) := by
  rcases kind8 h1 h2 with rfl | rfl | rfl | rfl | rfl | rfl | rfl | rfl
  all_goals
    go_enter Tryd.func94, Tryd.ntmps94
    go_wp2
    go_ret
    exact RetV.bool (by decide) (Below.refl _ _)
set_option maxHeartbeats 1000000 in
theorem c_edit_hasI (k : Int) (w : World) (h1 : 0 ≤ k) (h2 : k ≤ 7) : Calls Tryd.prog 94 #[.int .i64 k, .int .i64 2] w (RetV w (.bool (hasI k))) := by
  rcases kind8 h1 h2 with rfl | rfl | rfl | rfl | rfl | rfl | rfl | rfl
  all_goals
    go_enter Tryd.func94, Tryd.ntmps94
    go_wp2
    go_ret
    exact RetV.bool (by decide) (Below.refl _ _)
set_option maxHeartbeats 1000000 in
theorem c_edit_hasP (k : Int) (w : World) (h1 : 0 ≤ k) (h2 : k ≤ 7) : Calls Tryd.prog 94 #[.int .i64 k, .int .i64 4] w (RetV w (.bool (hasP k))) := by
  rcases kind8 h1 h2 with rfl | rfl | rfl | rfl | rfl | rfl | rfl | rfl
  all_goals
    go_enter Tryd.func94, Tryd.ntmps94
    go_wp2
    go_ret
    exact RetV.bool (by decide) (Below.refl _ _)
/-- What is asked for: 1 a group, 2 an ID, 4 a patch. -/
def hasW (k x : Int) : Bool := if x = 1 then hasG k else if x = 2 then hasI k else hasP k
theorem c_edit_has (k x : Int) (w : World) (h1 : 0 ≤ k) (h2 : k ≤ 7) (hx : x = 1 ∨ x = 2 ∨ x = 4) : Calls Tryd.prog 94 #[.int .i64 k, .int .i64 x] w (RetV w (.bool (hasW k x))) := by
  rcases hx with rfl | rfl | rfl
  · exact c_edit_hasG k w h1 h2
  · exact c_edit_hasI k w h1 h2
  · exact c_edit_hasP k w h1 h2
set_option maxHeartbeats 1000000 in
theorem c_ref19_group (k : Int) (w : World) (h1 : 0 ≤ k) (h2 : k ≤ 7) : Calls Tryd.prog 100 #[.int .i64 k] w (RetV w (.bool (hasG k))) := by
  rcases kind8 h1 h2 with rfl | rfl | rfl | rfl | rfl | rfl | rfl | rfl
  all_goals
    go_enter Tryd.func100, Tryd.ntmps100
    go_wp2
    go_ret
    exact RetV.bool (by decide) (Below.refl _ _)
set_option maxHeartbeats 1000000 in
theorem c_ref19_id (k : Int) (w : World) (h1 : 0 ≤ k) (h2 : k ≤ 7) : Calls Tryd.prog 101 #[.int .i64 k] w (RetV w (.bool (hasI k))) := by
  rcases kind8 h1 h2 with rfl | rfl | rfl | rfl | rfl | rfl | rfl | rfl
  all_goals
    go_enter Tryd.func101, Tryd.ntmps101
    go_wp2
    go_ret
    exact RetV.bool (by decide) (Below.refl _ _)
set_option maxHeartbeats 1000000 in
theorem c_ref19_patch (k : Int) (w : World) (h1 : 0 ≤ k) (h2 : k ≤ 7) : Calls Tryd.prog 102 #[.int .i64 k] w (RetV w (.bool (hasP k))) := by
  rcases kind8 h1 h2 with rfl | rfl | rfl | rfl | rfl | rfl | rfl | rfl
  all_goals
    go_enter Tryd.func102, Tryd.ntmps102
    go_wp2
    go_ret
    exact RetV.bool (by decide) (Below.refl _ _)
end Go.Proofs.YtjhndilflcigiaaDoor
namespace Go.Proofs.YtjhndilflcigiaaDoor
open Go.RowKit

section
variable {P : Program} {w : World}
theorem stop_bin {ops : Array Oper} {rest : List Oper} {o : Oper} {a : Act} {Q : Exit → Act → World → Prop} (op : BinOp) (ty : TypeId) (x y : Operand) (ty2 : TypeId) (_ : o.op = .binOp op ty x y ty2) (h : Stop (wpList P ops Q (o :: rest) a w)) : wpList P ops Q (o :: rest) a w := h
theorem wpList_neqS {ops : Array Oper} {rest : List Oper} {o : Oper} {a : Act} {Q : Exit → Act → World → Prop} (hw : Region.wanted o (yielded ops a.tmps) = true) (ty : TypeId) (x y : Operand) (ty2 : TypeId) (ho : o.op = .binOp .neq ty x y ty2)
    (xs ys : Array Value) (hx : a.eval x = .agg xs) (hy : a.eval y = .agg ys) (hg : P.eqGuardType P.depth ty = false) (b : Bool) (he : (Op.equalIn 10000 ty (.agg xs) (.agg ys)).run P w = .ok b w)
    (h : wpList P ops Q rest (a.put o.dst (.bool (!b))) w) : wpList P ops Q (o :: rest) a w := by
  refine wpList_g hw fun K hK => ?_
  unfold Oper.wp execOp
  simp only [ho, hx, hy, Sem.run_bind, Sem.run_pure, Result.andThen_ok, run_eqGuard_agg w _ _ _ _ _ _ hg, run_neq_struct, he]
  exact hK _ _ h
theorem wpList_eqlS {ops : Array Oper} {rest : List Oper} {o : Oper} {a : Act} {Q : Exit → Act → World → Prop} (hw : Region.wanted o (yielded ops a.tmps) = true) (ty : TypeId) (x y : Operand) (ty2 : TypeId) (ho : o.op = .binOp .eql ty x y ty2)
    (xs ys : Array Value) (hx : a.eval x = .agg xs) (hy : a.eval y = .agg ys) (hg : P.eqGuardType P.depth ty = false) (b : Bool) (he : (Op.equalIn 10000 ty (.agg xs) (.agg ys)).run P w = .ok b w)
    (h : wpList P ops Q rest (a.put o.dst (.bool b)) w) : wpList P ops Q (o :: rest) a w := by
  refine wpList_g hw fun K hK => ?_
  unfold Oper.wp execOp
  simp only [ho, hx, hy, Sem.run_bind, Sem.run_pure, Result.andThen_ok, run_eqGuard_agg w _ _ _ _ _ _ hg, run_eql_struct, he]
  exact hK _ _ h
end
theorem gP : Tryd.prog.eqGuardType Tryd.prog.depth 27 = false := by kernel_rfl
theorem gE : Tryd.prog.eqGuardType Tryd.prog.depth 29 = false := by kernel_rfl
end Go.Proofs.YtjhndilflcigiaaDoor
namespace Go.Proofs.YtjhndilflcigiaaDoor
open Go.RowKit

/-- A world behind the making of one block, in which that block is as it was made. -/
def At (w w' : World) (cs : Array Value) : Prop := Below w.heap.size w w' ∧ Blk w' w.heap.size cs
theorem At.new (w : World) (t : TypeId) (cs : Array Value) : At w (w.alloc (.cells cs t)) cs := ⟨(Below.refl _ _).alloc (Nat.le_refl _) _, Blk.new _ _ _⟩
theorem At.step {w w1 w2 : World} {cs : Array Value} (h : At w w1 cs) (hb : Below w1.heap.size w1 w2) : At w w2 cs := ⟨h.1.trans (hb.mono h.1.size), h.2.below hb h.2.lt⟩
theorem At.alloc {w w1 : World} {cs : Array Value} (h : At w w1 cs) (o : Obj) : At w (w1.alloc o) cs := h.step ((Below.refl _ _).alloc (Nat.le_refl _) o)
end Go.Proofs.YtjhndilflcigiaaDoor
namespace Go.Proofs.YtjhndilflcigiaaDoor
open Go.RowKit

theorem At.edit {w w1 : World} {e : Edit} (h : At w w1 e.arr) : w1.cell? ⟨w.heap.size, 0, none⟩ = some (.int .i64 e.kind) ∧ w1.cell? ⟨w.heap.size, 1, none⟩ = some (.int .i64 e.id) ∧ w1.cell? ⟨w.heap.size, 2, none⟩ = some (.int .i64 e.group) := by
  obtain ⟨h0, h1, h2⟩ := e.arr_head
  exact ⟨h.2.cell h0, h.2.cell h1, h.2.cell h2⟩
theorem gOk_bad {e : Edit} (h : ¬ e.gOk = true) : (e.group < 0) ∨ (0 ≤ e.group ∧ 16 ≤ e.group) ∨ (0 < e.group ∧ e.group < 16 ∧ hasG e.kind = false) := by
  unfold Edit.gOk at h
  cases hh : hasG e.kind
  all_goals
    rw [hh] at h
    simp only [Bool.and_eq_true, Bool.or_eq_true, decide_eq_true_eq, Bool.false_eq_true, false_or, true_or, and_true] at h
  · have : (e.group < 0) ∨ (0 ≤ e.group ∧ 16 ≤ e.group) ∨ (0 < e.group ∧ e.group < 16) := by omega
    rcases this with a | a | ⟨a, b⟩
    · exact .inl a
    · exact .inr (.inl a)
    · exact .inr (.inr ⟨a, b, rfl⟩)
  · have : (e.group < 0) ∨ (0 ≤ e.group ∧ 16 ≤ e.group) := by omega
    rcases this with a | a
    · exact .inl a
    · exact .inr (.inl a)
theorem gOk_ok {e : Edit} (h : e.gOk = true) : 0 ≤ e.group ∧ e.group < 16 ∧ (e.group = 0 ∨ (0 < e.group ∧ hasG e.kind = true)) := by
  unfold Edit.gOk at h
  cases hh : hasG e.kind
  all_goals
    rw [hh] at h
    simp only [Bool.and_eq_true, Bool.or_eq_true, decide_eq_true_eq, Bool.false_eq_true, false_or, true_or, and_true] at h
  · exact ⟨h.1.1, h.1.2, .inl h.2⟩
  · refine ⟨h.1, h.2, ?_⟩
    by_cases h0 : e.group = 0
    · exact .inl h0
    · exact .inr ⟨by omega, rfl⟩
theorem iOk_bad {e : Edit} (h : ¬ e.iOk = true) : (hasI e.kind = true ∧ e.id < 1) ∨ (hasI e.kind = true ∧ 1 ≤ e.id ∧ 1073741824 ≤ e.id) ∨ (hasI e.kind = false ∧ e.id ≠ 0) := by
  unfold Edit.iOk at h
  cases hh : hasI e.kind
  · rw [hh] at h
    exact .inr (.inr ⟨rfl, by simpa using h⟩)
  · rw [hh] at h
    simp only [if_true, decide_eq_true_eq] at h
    have : e.id < 1 ∨ (1 ≤ e.id ∧ 1073741824 ≤ e.id) := by omega
    rcases this with a | a
    · exact .inl ⟨rfl, a⟩
    · exact .inr (.inl ⟨rfl, a⟩)
theorem iOk_ok {e : Edit} (h : e.iOk = true) : (hasI e.kind = true ∧ 1 ≤ e.id ∧ e.id < 1073741824) ∨ (hasI e.kind = false ∧ e.id = 0) := by
  unfold Edit.iOk at h
  cases hh : hasI e.kind
  · rw [hh] at h
    exact .inr ⟨rfl, by simpa using h⟩
  · rw [hh] at h
    simp only [if_true, decide_eq_true_eq] at h
    exact .inl ⟨rfl, h⟩
set_option maxHeartbeats 1000000 in
theorem edit_Check_kind (e : Edit) (w : World) (hk : ¬ (1 ≤ e.kind ∧ e.kind ≤ 7)) : Calls Tryd.prog 90 #[.agg e.arr] w (RetV w (.int .i64 e.code)) := by
  have E := Lib.hid (Edit.code_kind hk)
  have BC := Lib.hid (At.new w 29 e.arr)
  obtain ⟨q0, q1, q2⟩ := BC.out.edit
  have hk' : e.kind < 1 ∨ (1 ≤ e.kind ∧ 7 < e.kind) := by omega
  clear hk
  rcases hk' with hk | ⟨hk, hk2⟩
  · have k1 : decide (e.kind < 1) = true := by simpa using hk
    clear hk
    go_enter Tryd.func90, Tryd.ntmps90
    go_wp2_with (fail)
    go_ret
    exact RetV.int E.out.symm BC.out.1
  · have k1 : decide (e.kind < 1) = false := by simpa using hk
    have k2 : decide (7 < e.kind) = true := by simpa using hk2
    clear hk hk2
    go_enter Tryd.func90, Tryd.ntmps90
    go_wp2_with (fail)
    go_ret
    exact RetV.int E.out.symm BC.out.1
set_option maxHeartbeats 1000000 in
set_option maxRecDepth 4000 in
theorem edit_Check_g (e : Edit) (w : World) (h1 : 1 ≤ e.kind) (h7 : e.kind ≤ 7) (hg : ¬ e.gOk = true) : Calls Tryd.prog 90 #[.agg e.arr] w (RetV w (.int .i64 e.code)) := by
  have E := Lib.hid (Edit.code_g (by simpa using hg))
  have BC := Lib.hid (At.new w 29 e.arr)
  obtain ⟨q0, q1, q2⟩ := BC.out.edit
  have k1 : decide (e.kind < 1) = false := by simpa using h1
  have k2 : decide (7 < e.kind) = false := by simpa using h7
  rcases gOk_bad hg with hg | ⟨hg, hg2⟩ | ⟨hg, hg2, hg3⟩
  · have k3 : decide (e.group < 0) = true := by simpa using hg
    clear hg
    go_enter Tryd.func90, Tryd.ntmps90
    go_wp2_with (fail)
    go_ret
    exact RetV.int E.out.symm BC.out.1
  · have k3 : decide (e.group < 0) = false := by simpa using hg
    have k4 : decide (16 ≤ e.group) = true := by simpa using hg2
    clear hg hg2
    go_enter Tryd.func90, Tryd.ntmps90
    go_wp2_with (fail)
    go_ret
    exact RetV.int E.out.symm BC.out.1
  · have k3 : decide (e.group < 0) = false := by simp; omega
    have k4 : decide (16 ≤ e.group) = false := by simpa using hg2
    have k5 : decide (0 < e.group) = true := by simpa using hg
    have j1 : hasW e.kind 1 = false := hg3
    clear hg hg2
    go_enter Tryd.func90, Tryd.ntmps90
    go_wp2_with (go_at_call 94; refine (c_edit_has e.kind _ _ (by omega) h7 (by decide)).mono ?_; rintro e1 w1 ⟨rfl, hb1⟩; replace BC := Lib.hid (BC.out.step hb1); clear q0 q1 q2; obtain ⟨q0, q1, q2⟩ := BC.out.edit)
    go_ret
    exact RetV.int E.out.symm BC.out.1
set_option maxHeartbeats 2000000 in
set_option maxRecDepth 4000 in
theorem edit_Check_i (e : Edit) (w : World) (h1 : 1 ≤ e.kind) (h7 : e.kind ≤ 7) (hg : e.gOk = true) (hi : ¬ e.iOk = true) : Calls Tryd.prog 90 #[.agg e.arr] w (RetV w (.int .i64 e.code)) := by
  have E := Lib.hid (Edit.code_i (by simpa using hi))
  have BC := Lib.hid (At.new w 29 e.arr)
  obtain ⟨q0, q1, q2⟩ := BC.out.edit
  have k1 : decide (e.kind < 1) = false := by simpa using h1
  have k2 : decide (7 < e.kind) = false := by simpa using h7
  obtain ⟨g1, g2, g3⟩ := gOk_ok hg
  have k3 : decide (e.group < 0) = false := by simp; omega
  have k4 : decide (16 ≤ e.group) = false := by simpa using g2
  rcases g3 with g3 | ⟨g3, g4⟩
  all_goals
    first
    | (have k5 : decide (0 < e.group) = false := by simp; omega)
    | (have k5 : decide (0 < e.group) = true := by simpa using g3
       have j1 : hasW e.kind 1 = true := g4)
    clear g1 g2 g3 hg
    rcases iOk_bad hi with ⟨i1, i2⟩ | ⟨i1, i2, i3⟩ | ⟨i1, i2⟩
    all_goals
      first
      | (have k6 : decide (e.id < 1) = true := by simpa using i2
         have j2 : hasW e.kind 2 = true := i1)
      | (have k6 : decide (e.id < 1) = false := by simpa using i2
         have k7 : decide (1073741824 ≤ e.id) = true := by simpa using i3
         have j2 : hasW e.kind 2 = true := i1
         clear i3)
      | (have k6 : (e.id != 0) = true := by simpa using i2
         have j2 : hasW e.kind 2 = false := i1)
      clear i2 hi
      go_enter Tryd.func90, Tryd.ntmps90
      go_wp2_with (first
        | (go_at_call 94; refine (c_edit_has e.kind _ _ (by omega) h7 (by decide)).mono ?_; rintro e1 w1 ⟨rfl, hb1⟩; replace BC := Lib.hid (BC.out.step hb1); clear q0 q1 q2; obtain ⟨q0, q1, q2⟩ := BC.out.edit))
      go_ret
      exact RetV.int E.out.symm BC.out.1
set_option maxHeartbeats 4000000 in
set_option maxRecDepth 4000 in
theorem edit_Check_p (e : Edit) (w : World) (hf : e.p.f.length = 8) (hs : ∀ x ∈ e.p.f, x.s.length ≤ 4294967000) (hm : e.p.mask < 4294967296) (h1 : 1 ≤ e.kind) (h7 : e.kind ≤ 7) (hg : e.gOk = true) (hi : e.iOk = true) : Calls Tryd.prog 90 #[.agg e.arr] w (RetV w (.int .i64 e.code)) := by
  have E := Lib.hid (Edit.code_p h1 h7 hg hi)
  have BC := Lib.hid (At.new w 29 e.arr)
  have HF := Lib.hid hf
  have hsz : e.p.arr.size = 26 := by rw [Patch.arr_size, hf]
  have HZ := Lib.hid hsz
  clear hsz hf
  obtain ⟨q0, q1, q2⟩ := BC.out.edit
  have k1 : decide (e.kind < 1) = false := by simpa using h1
  have k2 : decide (7 < e.kind) = false := by simpa using h7
  obtain ⟨g1, g2, g3⟩ := gOk_ok hg
  have k3 : decide (e.group < 0) = false := by simp; omega
  have k4 : decide (16 ≤ e.group) = false := by simpa using g2
  rcases g3 with g3 | ⟨g3, g4⟩
  all_goals
    first
    | (have k5 : decide (0 < e.group) = false := by simp; omega)
    | (have k5 : decide (0 < e.group) = true := by simpa using g3
       have j1 : hasW e.kind 1 = true := g4)
    clear g1 g2 g3 hg
    rcases iOk_ok hi with ⟨i1, i2, i3⟩ | ⟨i1, i2⟩
    all_goals
      first
      | (have k6 : decide (e.id < 1) = false := by simpa using i2
         have k7 : decide (1073741824 ≤ e.id) = false := by simpa using i3
         have j2 : hasW e.kind 2 = true := i1
         clear i3)
      | (have k6 : (e.id != 0) = false := by simpa using i2
         have j2 : hasW e.kind 2 = false := i1)
      clear i2 hi
      cases hp : hasP e.kind
      · have j4 : hasW e.kind 4 = false := hp
        cases hz : decide (e.p = pz)
        all_goals
          go_enter Tryd.func90, Tryd.ntmps90
          go_wp2_with (first
            | (with_reducible refine stop_load 27 (.tmp 65) rfl rfl ?_)
            | (go_at_call 94; refine (c_edit_has e.kind _ _ (by omega) h7 (by decide)).mono ?_; rintro e1 w1 ⟨rfl, hb1⟩; replace BC := Lib.hid (BC.out.step hb1); clear q0 q1 q2; obtain ⟨q0, q1, q2⟩ := BC.out.edit))
          refine Stop.mk (wpList_loadAt rfl _ _ rfl w.heap.size 3 rfl e.p.arr (Edit.part BC.out.2) strP HZ.out ?_)
          go_wp2_with (with_reducible refine stop_bin .neq 27 (.tmp 66) (.tmp 67) 27 rfl ?_)
          refine Stop.mk (wpList_neqS (by rfl) _ _ _ _ rfl e.p.arr pz.arr rfl (by rw [pz_cells]; rfl) gP _ ((eq_patch HF.out rfl 9996 _).trans (by rw [hz])) ?_)
          go_wp2_with (fail)
          go_ret
          exact RetV.int (by rw [E.out, hp, if_neg (by decide)]; first | rw [if_pos (of_decide_eq_true hz)] | rw [if_neg (of_decide_eq_false hz)]) BC.out.1
      · have j4 : hasW e.kind 4 = true := hp
        go_enter Tryd.func90, Tryd.ntmps90
        go_wp2_with (first
          | (with_reducible refine stop_load 27 (.tmp 61) rfl rfl ?_)
          | (go_at_call 94; refine (c_edit_has e.kind _ _ (by omega) h7 (by decide)).mono ?_; rintro e1 w1 ⟨rfl, hb1⟩; replace BC := Lib.hid (BC.out.step hb1); clear q0 q1 q2; obtain ⟨q0, q1, q2⟩ := BC.out.edit))
        refine Stop.mk (wpList_loadAt rfl _ _ rfl w.heap.size 3 rfl e.p.arr (Edit.part BC.out.2) strP HZ.out ?_)
        go_wp2_with (go_at_call 91; refine (c_card_CheckPatch e.p _ hm HF.out hs).mono ?_; rintro e1 w1 ⟨rfl, hb1⟩; replace BC := Lib.hid (BC.out.step hb1))
        go_ret
        exact RetV.int (by rw [E.out, hp]; rfl) BC.out.1
end Go.Proofs.YtjhndilflcigiaaDoor
namespace Go.Proofs.YtjhndilflcigiaaDoor
open Go.RowKit

/-! One field, by the closure. -/
/-- One field was read: the reader, the fields; the worlds on the way. -/
def RetOne (b : Bool) (p : Option Nat) (st : Rd) (f : List Val) (k bo : Nat) (w : World) (e : Ending) (w' : World) : Prop :=
  e = .returned (.tuple #[]) ∧ RdP w' p (fldS b st) ∧ Blk w' bo (farr (f.set k (rdVal st))) ∧ ∃ w1 w2, Kept p w.heap.size w w1 ∧ Kept (some bo) w1.heap.size w1 w2 ∧ Kept p w2.heap.size w2 w'
end Go.Proofs.YtjhndilflcigiaaDoor
namespace Go.Proofs.YtjhndilflcigiaaDoor
open Go.RowKit

theorem Blk.alloc {w : World} {g : Nat} {cs : Array Value} (h : Blk w g cs) (o : Obj) : Blk (w.alloc o) g cs := h.below ((Below.refl _ _).alloc (Nat.le_refl _) o) h.lt
theorem farr_one (f : List Val) : ∀ v ∈ (farr f).toList, v.oneCell' = true := by
  intro v hv
  unfold farr at hv
  simp only [List.mem_flatMap] at hv
  obtain ⟨x, -, hx⟩ := hv
  simp only [Val.cells, List.mem_cons, List.not_mem_nil, or_false] at hx
  rcases hx with rfl | rfl | rfl <;> rfl
/-- What stands when k of the mask's fields have been read. -/
structure FldAt (w : World) (p : Option Nat) (b : Bool) (S : Rd) (F : List Val) (m : Nat) (A7 : Option Addr) (c7 : Nat) (k : Nat) (st : Rd) (f : List Val) (wr : World) : Prop where
  len : f.length = 8
  eS : rdFs' b ((bitsTo m 8).drop k) st = S
  eF : rdFv b ((bitsTo m 8).drop k) st f = F
  rd : RdP wr p st
  P : Blk wr w.heap.size #[ptr p]
  N : Blk wr (w.heap.size + 1) #[.bool b]
  R : ∃ z, z.size = 24 ∧ Blk wr (w.heap.size + 2) z
  O : Blk wr (w.heap.size + 3) (farr f)
  own : wr.ownsRow (w.heap.size + 4) 3 1 (.slice A7 (idx8 m).length c7) (idx8 m).length ((idx8 m).flatMap ic)
  kept : Kept p w.heap.size w wr
theorem FldAt.next {w : World} {p : Option Nat} {b : Bool} {S : Rd} {F : List Val} {m : Nat} {A7 : Option Addr} {c7 k : Nat} {st : Rd} {f : List Val} {wr w' : World} {e : Ending} (hp : ∀ g, p = some g → g < w.heap.size) (h : FldAt w p b S F m A7 c7 k st f wr)
    {n : Nat} (hk : k < (bitsTo m 8).length) (hn : n = (bitsTo m 8)[k]) (h1 : RetOne b p st f n (w.heap.size + 3) wr e w') : FldAt w p b S F m A7 c7 (k + 1) (fldS b st) (f.set n (rdVal st)) w' := by
  obtain ⟨-, hr, ho, w1, w2, k1, k2, k3⟩ := h1
  have hS := h.eS
  have hF := h.eF
  rw [List.drop_eq_getElem_cons hk, ← hn] at hS hF
  have ne : ∀ g, w.heap.size ≤ g → p ≠ some g := fun g hg e => by have := hp g e; omega
  obtain ⟨z, hz, hR⟩ := h.R
  have z1 := k1.size
  have z2 := k2.size
  have z3 := k3.size
  have zw := h.kept.size
  have tr : ∀ {g : Nat} {cs : Array Value}, Blk wr g cs → w.heap.size ≤ g → g ≠ w.heap.size + 3 → Blk w' g cs := fun hb hg hne => by
    have b1 := hb.kept k1 hb.lt (ne _ hg)
    have b2 := b1.kept k2 b1.lt (fun e => hne (by injection e with e; exact e.symm))
    exact b2.kept k3 b2.lt (ne _ hg)
  refine ⟨by rw [List.length_set]; exact h.len, hS, hF, hr, tr h.P (Nat.le_refl _) (by omega), tr h.N (by omega) (by omega), ⟨z, hz, tr hR (by omega) (by omega)⟩, ho, ?_, ?_⟩
  · have o1 := own_kept h.own k1 (fun g hg => by have := hp g hg; omega)
    have o2 := own_kept o1 k2 (fun g hg => by injection hg with hg; omega)
    exact own_kept o2 k3 (fun g hg => by have := hp g hg; omega)
  · exact ((h.kept.trans (k1.mono zw)).trans (k2.one (by omega) (.inl (by omega)))).trans (k3.mono (by omega))
end Go.Proofs.YtjhndilflcigiaaDoor
namespace Go.Proofs.YtjhndilflcigiaaDoor
open Go.RowKit

theorem putAt_app (hd tl : List Value) (j : Nat) (vs : List Value) (h : j + vs.length ≤ tl.length) : putAt (hd ++ tl).toArray (hd.length + j) vs = (hd ++ (putAt tl.toArray j vs).toList).toArray := by
  apply Array.ext_getElem?
  intro i
  have e : (hd ++ (putAt tl.toArray j vs).toList).toArray[i]? = (hd ++ (putAt tl.toArray j vs).toList)[i]? := by simp only [List.getElem?_toArray]
  rw [e]
  clear e
  by_cases hi : i < hd.length
  · rw [putAt_far _ _ _ _ (.inl (by omega)), List.getElem?_append_left hi, List.getElem?_toArray, List.getElem?_append_left hi]
  · obtain ⟨q, rfl⟩ : ∃ q, i = hd.length + q := ⟨i - hd.length, by omega⟩
    rw [List.getElem?_append_right (by omega), Nat.add_sub_cancel_left, Array.getElem?_toList]
    by_cases h1 : q < j ∨ j + vs.length ≤ q
    · rw [putAt_far _ _ _ _ (by omega), putAt_far _ _ _ _ h1, List.getElem?_toArray, List.getElem?_append_right (by omega), Nat.add_sub_cancel_left, List.getElem?_toArray]
    · obtain ⟨r, rfl⟩ : ∃ r, q = j + r := ⟨q - j, by omega⟩
      rw [← Nat.add_assoc, putAt_in _ _ _ _ (by simp; omega) (by omega), putAt_in _ _ _ _ (by simp; omega) (by omega)]
theorem farr_list (f : List Val) : (farr f).toList = f.flatMap Val.cells := by unfold farr; rfl
section
variable {a b : Int} {l m : Nat} {f g : List Val}
end
theorem Card.arr_one (c : Card) : ∀ v ∈ c.arr.toList, v.oneCell' = true := by
  intro v hv
  unfold Card.arr at hv
  rw [List.mem_append] at hv
  rcases hv with hv | hv
  · simp only [List.mem_cons, List.not_mem_nil, or_false] at hv
    rcases hv with rfl | rfl | rfl <;> rfl
  · exact farr_one c.f v (by rw [farr_list]; exact hv)
theorem Patch.arr_one (c : Patch) : ∀ v ∈ c.arr.toList, v.oneCell' = true := by
  intro v hv
  unfold Patch.arr at hv
  rw [List.mem_append] at hv
  rcases hv with hv | hv
  · simp only [List.mem_cons, List.not_mem_nil, or_false] at hv
    rcases hv with rfl | rfl <;> rfl
  · exact farr_one c.f v (by rw [farr_list]; exact hv)
theorem Card.arr_ones (c : Card) : (c.arr.all fun x => x.oneCell') = true := by
  rw [Array.all_eq_true]
  exact fun i hi => Card.arr_one c _ (Array.getElem_mem_toList hi)
theorem Patch.arr_ones (c : Patch) : (c.arr.all fun x => x.oneCell') = true := by
  rw [Array.all_eq_true]
  exact fun i hi => Patch.arr_one c _ (Array.getElem_mem_toList hi)
end Go.Proofs.YtjhndilflcigiaaDoor
