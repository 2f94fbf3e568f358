/-
  The walk of core.Check: which commands may be. (Printed by gen33b.py.)
-/
import Derived.Test.YtjhndilflcigiaaDoorQb23
import Derived.Test.YtjhndilflcigiaaDoorRows
import Derived.WalkKit
import Derived.WalkSpells
import Derived.WalkLawsBesides
import Derived.Lib.Hide
import Derived.Deep.QuietTactic
import Derived.BigQuiet
import Derived.Maps.AppendAt
import Derived.WalkSmall
import Derived.ProofKit
import Derived.OpenShut
import Derived.JoinedCond
import Derived.Deep.Slices
import Derived.Deep.Fields
import Derived.Carry
import Derived.Deep.AppendSrc
import Derived.Lib.AppendStr
import Derived.Laws.BytesArg
import Derived.Test.YtjhndilflcigiaaDoorProg
import Derived.Shelf.Spec.TrailingZeros
import Derived.RangeFuncNested
import Derived.RangeFuncBound
import Derived.RangeFuncCalls
import Derived.RangeFuncLeaves
import Derived.Shelf.Abstract
import Derived.Shelf.RegionOpen
import Derived.OwnWalkIn
import Derived.TacticsInMore
import Derived.LoopNIn
import Derived.LoopIn
import Derived.Test.YtjhndilflcigiaaDoorTie
import Derived.Lib.LaidTab
import Derived.LaidMore
import Derived.SevenTiedAt
import Derived.Test.YtjhndilflcigiaaDoorCards
import Derived.Laws.Tables
import Derived.Laws.Rows
import Derived.Maps.Own
import Derived.Deep.CutBlock
import Derived.Deep.DeepCutAuto
import Derived.ChangeKeysEq
import Derived.Laws.StructEq
import Derived.Laws.CopyOwn
import Derived.Outline
import Derived.IntWalk
import Derived.Lib.EndianBits
import Derived.Lib.AppendZeros
import Derived.WalkMore
import Derived.StillTail
import Derived.Deep.Quiet
namespace Go.Proofs.YtjhndilflcigiaaDoor
open Go.RowKit

theorem strCm : Str Tryd.prog 32 63 := ⟨⟨_, Tryd.underlying32, rfl⟩, by kernel_rfl⟩
theorem Cmd.arr_ones {c : Cmd} {A : Option Addr} {n : Nat} (h : c.wf) : ((c.arr A n).all fun x => x.oneCell') = true := by
  rw [Array.all_eq_true]
  exact fun i hi => Cmd.arr_one h _ (Array.getElem_mem_toList hi)
theorem blk_new2 (w : World) (o : Obj) (t : TypeId) (cs : Array Value) : Blk ((w.alloc o).alloc (.cells cs t)) (w.heap.size + 1) cs := by
  have := Blk.new (w.alloc o) t cs
  simpa using this
/-- A command as it came in, and a copy of which parts have been stored. -/
structure CR (w w' : World) (c r : Cmd) (A : Option Addr) (n : Nat) (B : Option Addr) (m : Nat) : Prop where
  below : Below w.heap.size w w'
  c : Blk w' w.heap.size (c.arr A n)
  r : Blk w' (w.heap.size + 1) (r.arr B m)
section
variable {w w1 w2 : World} {c r r' : Cmd} {A B B' : Option Addr} {n m m' : Nat}
theorem CR.step (h : CR w w1 c r A n B m) (hb : Below w1.heap.size w1 w2) : CR w w2 c r A n B m := ⟨h.below.trans (hb.mono h.below.size), h.c.below hb h.c.lt, h.r.below hb h.r.lt⟩
theorem CR.put (h : CR w w1 c r A n B m) (hk : Kept (some (w.heap.size + 1)) w1.heap.size w1 w2) (hb : Blk w2 (w.heap.size + 1) (r'.arr B' m')) : CR w w2 c r' A n B' m' :=
  ⟨h.below.trans (hk.oneB h.below.size (by omega)), h.c.kept hk h.c.lt (by simp), hb⟩
theorem CR.set (h : CR w w1 c r A n B m) (off : Nat) (v : Value) (e : (r.arr B m).setIfInBounds off v = r'.arr B' m') : CR w (w1.setCell ⟨w.heap.size + 1, off, none⟩ v) c r' A n B' m' :=
  h.put (kept_set w1 (w.heap.size + 1) off v) (e ▸ h.r.store off v)
end
set_option maxHeartbeats 4000000 in
set_option maxRecDepth 4000 in
theorem core_Check_1 (c : Cmd) (A : Option Addr) (n : Nat) (w : World) (hwf : c.wf) (hr : c.rng) (hI : InN w A n c.f) (hs : ∀ x ∈ c.f, x.v.s.length ≤ 4294967000) (hse : ∀ x ∈ c.e.p.f, x.s.length ≤ 4294967000) (hsp : ∀ x ∈ c.p.f, x.s.length ≤ 4294967000) (hme : c.e.p.mask < 4294967296) (_hmp : c.p.mask < 4294967296) (_hm : c.mask < 4294967296) (hk : c.kind = 1) : Calls Tryd.prog 35 #[.agg (c.arr A n)] w (RetV w (.bool c.ok)) := by
  have hw := Lib.hid hwf
  have HR := Lib.hid hr
  have HI := Lib.hid hI
  have Hs := Lib.hid hs
  have Hse := Lib.hid hse
  have Hsp := Lib.hid hsp
  have B0 := Lib.hid (At.new w 32 (c.arr A n))
  have HK := Lib.hid (Cmd.ok_1 hk)
  have j1 : (c.kind == 1) = true := by simpa using hk
  have HQ := Lib.hid (show Cmd.rng { c with e := ez } from ⟨hr.dev, hr.req, hr.id, hr.base, hr.keep⟩)
  have hv := Lib.hid (show Cmd.wf { c with e := ez } from ⟨rfl, hwf.p⟩)
  clear hk hwf hr hI hs hse hsp
  go_enter Tryd.func35, Tryd.ntmps35
  go_wp2_with (with_reducible refine stop_load 32 (.tmp 1) rfl rfl ?_)
  refine Stop.mk (wpList_loadB rfl _ _ rfl w.heap.size rfl _ B0.out.2 strCm (Cmd.arr_size hw.out) ?_)
  go_wp2_with (with_reducible refine stop_store 32 (.tmp 3) (.tmp 4) rfl rfl ?_)
  refine Stop.mk (wpList_storeB rfl _ _ _ rfl (w.heap.size + 1) (c.arr A n) (by first | rfl | simp) rfl _ (blk_new2 _ _ _ _) strCm (Cmd.arr_size hw.out) (by rw [Cmd.arr_size hw.out]; rfl) (Cmd.arr_ones hw.out) ?_)
  intro w1 hb1 hk1
  have R0 := Lib.hid (show CR w w1 c c A n A n from ⟨(B0.out.1.alloc B0.out.1.size _).trans (hk1.oneB (by simp; omega) (by omega)), (B0.out.2.below ((Below.refl _ _).alloc (Nat.le_refl _) _) B0.out.2.lt).kept hk1 (by simp; omega) (by simp), hb1⟩)
  clear hb1 hk1 B0
  obtain ⟨q0, q1, q2, q3, q4, q5, q6, q7⟩ := cmd_cells hw.out R0.out.c
  go_wp2_with (with_reducible refine stop_store 29 (.tmp 10) (.tmp 9) rfl rfl ?_)
  refine Stop.mk (wpList_storeAt rfl _ _ _ rfl (w.heap.size + 1) 1 ez.arr rfl (by rw [ez_cells]; rfl) _ R0.out.r strE (Edit.sizeE rfl) (by rw [Edit.sizeE rfl, Cmd.arr_size hw.out]; decide) (Edit.arr_one ez) ?_)
  intro w3 hb3 hk3
  replace R0 := Lib.hid (R0.out.put hk3 (show Blk w3 (w.heap.size + 1) (Cmd.arr { c with e := ez } A n) by rw [← Cmd.putE hw.out ez rfl]; exact hb3))
  clear hb3 hk3 q0 q1 q2 q3 q4 q5 q6 q7
  go_wp2_with (with_reducible refine stop_load 32 (.tmp 3) rfl rfl ?_)
  refine Stop.mk (wpList_loadB rfl _ _ rfl (w.heap.size + 1) rfl _ R0.out.r strCm (Cmd.arr_size hv.out) ?_)
  go_wp2_with (fail)
  refine (c_core_bare { c with e := ez } _ _ _ hv.out HQ.out).mono ?_
  rintro e w2 ⟨rfl, hb2⟩
  replace R0 := Lib.hid (R0.out.step hb2)
  clear hb2
  obtain ⟨q0, q1, q2, q3, q4, q5, q6, q7⟩ := cmd_cells hw.out R0.out.c
  obtain ⟨V, hV⟩ : ∃ V, V = ({ c with e := ez } : Cmd).bare := ⟨_, rfl⟩
  have HV := Lib.hid hV
  rw [← hV]
  clear hV
  cases V
  case false =>
    go_wp2_with (fail)
    go_ret
    refine RetV.bool ?_ R0.out.below
    rw [HK.out]
    unfold Cmd.okEdit
    rw [← HV.out]
    rfl
  case true =>
    go_wp2_with (with_reducible refine stop_loadG 29 (.tmp 14) rfl ?_)
    refine Stop.mk (wpList_loadAtG (by rfl) _ _ rfl w.heap.size 1 rfl c.e.arr (cmd_edit hw.out R0.out.c) strE (by rw [Edit.arr_size, hw.out.e]) ?_)
    go_wp2_with (fail)
    refine (c_edit_Check c.e _ hw.out.e Hse.out hme).mono ?_
    rintro e w4 ⟨rfl, hb4⟩
    replace R0 := Lib.hid (R0.out.step hb4)
    go_wp2_with (fail)
    go_ret
    refine RetV.bool ?_ R0.out.below
    rw [HK.out]
    unfold Cmd.okEdit
    rw [← HV.out, beq_zi]
    rfl
set_option maxHeartbeats 4000000 in
set_option maxRecDepth 4000 in
theorem core_Check_5 (c : Cmd) (A : Option Addr) (n : Nat) (w : World) (hwf : c.wf) (hr : c.rng) (hI : InN w A n c.f) (hs : ∀ x ∈ c.f, x.v.s.length ≤ 4294967000) (hse : ∀ x ∈ c.e.p.f, x.s.length ≤ 4294967000) (hsp : ∀ x ∈ c.p.f, x.s.length ≤ 4294967000) (_hme : c.e.p.mask < 4294967296) (_hmp : c.p.mask < 4294967296) (_hm : c.mask < 4294967296) (hk : c.kind = 5) : Calls Tryd.prog 35 #[.agg (c.arr A n)] w (RetV w (.bool c.ok)) := by
  have hw := Lib.hid hwf
  have HR := Lib.hid hr
  have HI := Lib.hid hI
  have Hs := Lib.hid hs
  have Hse := Lib.hid hse
  have Hsp := Lib.hid hsp
  have B0 := Lib.hid (At.new w 32 (c.arr A n))
  have HK := Lib.hid (Cmd.ok_5 hk)
  have j1 : (c.kind == 1) = false := by rw [hk]; rfl
  have j5 : (c.kind == 5) = true := by simpa using hk
  have HQ := Lib.hid (show Cmd.rng { c with keep := 0 } from ⟨hr.dev, hr.req, hr.id, hr.base, by unfold I6; simp only; omega⟩)
  have hv := Lib.hid (show Cmd.wf { c with keep := 0 } from ⟨hwf.e, hwf.p⟩)
  clear hk hwf hr hI hs hse hsp
  go_enter Tryd.func35, Tryd.ntmps35
  go_wp2_with (with_reducible refine stop_load 32 (.tmp 1) rfl rfl ?_)
  refine Stop.mk (wpList_loadB rfl _ _ rfl w.heap.size rfl _ B0.out.2 strCm (Cmd.arr_size hw.out) ?_)
  go_wp2_with (with_reducible refine stop_store 32 (.tmp 3) (.tmp 4) rfl rfl ?_)
  refine Stop.mk (wpList_storeB rfl _ _ _ rfl (w.heap.size + 1) (c.arr A n) (by first | rfl | simp) rfl _ (blk_new2 _ _ _ _) strCm (Cmd.arr_size hw.out) (by rw [Cmd.arr_size hw.out]; rfl) (Cmd.arr_ones hw.out) ?_)
  intro w1 hb1 hk1
  have R0 := Lib.hid (show CR w w1 c c A n A n from ⟨(B0.out.1.alloc B0.out.1.size _).trans (hk1.oneB (by simp; omega) (by omega)), (B0.out.2.below ((Below.refl _ _).alloc (Nat.le_refl _) _) B0.out.2.lt).kept hk1 (by simp; omega) (by simp), hb1⟩)
  clear hb1 hk1 B0
  obtain ⟨q0, q1, q2, q3, q4, q5, q6, q7⟩ := cmd_cells hw.out R0.out.c
  have s34 := R0.out.r.cell (Cmd.getI hw.out 4 (by omega))
  have sf := fun i => R0.out.r.frozen i
  go_wp2_with (with_reducible refine stop_load 32 (.tmp 3) rfl rfl ?_)
  clear s34 sf q0 q1 q2 q3 q4 q5 q6 q7
  replace R0 := Lib.hid (R0.out.set 34 (.int .i64 0) (by have := Cmd.setI (hw.out) (A := A) (n := n) 4 (by omega) 0; simpa using this))
  refine Stop.mk (wpList_loadB rfl _ _ rfl (w.heap.size + 1) rfl _ R0.out.r strCm (Cmd.arr_size hv.out) ?_)
  go_wp2_with (fail)
  refine (c_core_bare { c with keep := 0 } _ _ _ hv.out HQ.out).mono ?_
  rintro e w2 ⟨rfl, hb2⟩
  replace R0 := Lib.hid (R0.out.step hb2)
  clear hb2
  obtain ⟨q0, q1, q2, q3, q4, q5, q6, q7⟩ := cmd_cells hw.out R0.out.c
  obtain ⟨V, hV⟩ : ∃ V, V = ({ c with keep := 0 } : Cmd).bare := ⟨_, rfl⟩
  have HV := Lib.hid hV
  rw [← hV]
  clear hV
  cases V
  case false =>
    go_wp2_with (fail)
    go_ret
    refine RetV.bool ?_ R0.out.below
    rw [HK.out]
    unfold Cmd.okTrim
    rw [← HV.out]
    rfl
  case true =>
    go_wp2_with (fail)
    all_goals
      go_ret
      refine RetV.bool ?_ R0.out.below
      rw [HK.out]
      unfold Cmd.okTrim
      rw [← HV.out]
      simp_all <;> (try (intros; omega)) <;> (try omega)
set_option maxHeartbeats 4000000 in
set_option maxRecDepth 4000 in
theorem core_Check_bad (c : Cmd) (A : Option Addr) (n : Nat) (w : World) (hwf : c.wf) (hr : c.rng) (hI : InN w A n c.f) (hs : ∀ x ∈ c.f, x.v.s.length ≤ 4294967000) (hse : ∀ x ∈ c.e.p.f, x.s.length ≤ 4294967000) (hsp : ∀ x ∈ c.p.f, x.s.length ≤ 4294967000) (_hme : c.e.p.mask < 4294967296) (_hmp : c.p.mask < 4294967296) (_hm : c.mask < 4294967296) (hk1 : c.kind ≠ 1) (hk5 : c.kind ≠ 5) (hq : c.rq = false) : Calls Tryd.prog 35 #[.agg (c.arr A n)] w (RetV w (.bool c.ok)) := by
  have hcs : c.dev < 0 ∨ (0 ≤ c.dev ∧ 6 ≤ c.dev) ∨ (0 ≤ c.dev ∧ c.dev < 6 ∧ c.req < 1) ∨ (0 ≤ c.dev ∧ c.dev < 6 ∧ 1 ≤ c.req ∧ 1099511627776 < c.req) := by
    have : ¬ (0 ≤ c.dev ∧ c.dev ≤ 5 ∧ 1 ≤ c.req ∧ c.req ≤ 1099511627776) := fun h => by rw [Cmd.rq_iff.2 h] at hq; cases hq
    omega
  rcases hcs with h1 | ⟨h1, h2⟩ | ⟨h1, h2, h3⟩ | ⟨h1, h2, h3, h4⟩
  · skip
    have hw := Lib.hid hwf
    have HR := Lib.hid hr
    have HI := Lib.hid hI
    have Hs := Lib.hid hs
    have Hse := Lib.hid hse
    have Hsp := Lib.hid hsp
    have B0 := Lib.hid (At.new w 32 (c.arr A n))
    have HK := Lib.hid (show c.ok = false by unfold Cmd.ok; rw [if_neg hk1, if_neg hk5, hq]; simp)
    have j1 : (c.kind == 1) = false := by simpa using hk1
    have j5 : (c.kind == 5) = false := by simpa using hk5
    have y0 : decide (c.dev < 0) = true := by simpa using h1
    clear h1
    clear hk1 hk5 hq hwf hr hI hs hse hsp
    go_enter Tryd.func35, Tryd.ntmps35
    go_wp2_with (with_reducible refine stop_load 32 (.tmp 1) rfl rfl ?_)
    refine Stop.mk (wpList_loadB rfl _ _ rfl w.heap.size rfl _ B0.out.2 strCm (Cmd.arr_size hw.out) ?_)
    go_wp2_with (with_reducible refine stop_store 32 (.tmp 3) (.tmp 4) rfl rfl ?_)
    refine Stop.mk (wpList_storeB rfl _ _ _ rfl (w.heap.size + 1) (c.arr A n) (by first | rfl | simp) rfl _ (blk_new2 _ _ _ _) strCm (Cmd.arr_size hw.out) (by rw [Cmd.arr_size hw.out]; rfl) (Cmd.arr_ones hw.out) ?_)
    intro w1 hb1 hk1
    have R0 := Lib.hid (show CR w w1 c c A n A n from ⟨(B0.out.1.alloc B0.out.1.size _).trans (hk1.oneB (by simp; omega) (by omega)), (B0.out.2.below ((Below.refl _ _).alloc (Nat.le_refl _) _) B0.out.2.lt).kept hk1 (by simp; omega) (by simp), hb1⟩)
    clear hb1 hk1 B0
    obtain ⟨q0, q1, q2, q3, q4, q5, q6, q7⟩ := cmd_cells hw.out R0.out.c
    go_wp2_with (fail)
    go_ret
    refine RetV.bool ?_ R0.out.below
    rw [HK.out]
  · skip
    have hw := Lib.hid hwf
    have HR := Lib.hid hr
    have HI := Lib.hid hI
    have Hs := Lib.hid hs
    have Hse := Lib.hid hse
    have Hsp := Lib.hid hsp
    have B0 := Lib.hid (At.new w 32 (c.arr A n))
    have HK := Lib.hid (show c.ok = false by unfold Cmd.ok; rw [if_neg hk1, if_neg hk5, hq]; simp)
    have j1 : (c.kind == 1) = false := by simpa using hk1
    have j5 : (c.kind == 5) = false := by simpa using hk5
    have y0 : decide (c.dev < 0) = false := by simpa using h1
    have y1 : decide (6 ≤ c.dev) = true := by simpa using h2
    clear h1 h2
    clear hk1 hk5 hq hwf hr hI hs hse hsp
    go_enter Tryd.func35, Tryd.ntmps35
    go_wp2_with (with_reducible refine stop_load 32 (.tmp 1) rfl rfl ?_)
    refine Stop.mk (wpList_loadB rfl _ _ rfl w.heap.size rfl _ B0.out.2 strCm (Cmd.arr_size hw.out) ?_)
    go_wp2_with (with_reducible refine stop_store 32 (.tmp 3) (.tmp 4) rfl rfl ?_)
    refine Stop.mk (wpList_storeB rfl _ _ _ rfl (w.heap.size + 1) (c.arr A n) (by first | rfl | simp) rfl _ (blk_new2 _ _ _ _) strCm (Cmd.arr_size hw.out) (by rw [Cmd.arr_size hw.out]; rfl) (Cmd.arr_ones hw.out) ?_)
    intro w1 hb1 hk1
    have R0 := Lib.hid (show CR w w1 c c A n A n from ⟨(B0.out.1.alloc B0.out.1.size _).trans (hk1.oneB (by simp; omega) (by omega)), (B0.out.2.below ((Below.refl _ _).alloc (Nat.le_refl _) _) B0.out.2.lt).kept hk1 (by simp; omega) (by simp), hb1⟩)
    clear hb1 hk1 B0
    obtain ⟨q0, q1, q2, q3, q4, q5, q6, q7⟩ := cmd_cells hw.out R0.out.c
    go_wp2_with (fail)
    go_ret
    refine RetV.bool ?_ R0.out.below
    rw [HK.out]
  · skip
    have hw := Lib.hid hwf
    have HR := Lib.hid hr
    have HI := Lib.hid hI
    have Hs := Lib.hid hs
    have Hse := Lib.hid hse
    have Hsp := Lib.hid hsp
    have B0 := Lib.hid (At.new w 32 (c.arr A n))
    have HK := Lib.hid (show c.ok = false by unfold Cmd.ok; rw [if_neg hk1, if_neg hk5, hq]; simp)
    have j1 : (c.kind == 1) = false := by simpa using hk1
    have j5 : (c.kind == 5) = false := by simpa using hk5
    have y0 : decide (c.dev < 0) = false := by simpa using h1
    have y1 : decide (6 ≤ c.dev) = false := by simp; omega
    have y2 : decide (c.req < 1) = true := by simpa using h3
    clear h1 h2 h3
    clear hk1 hk5 hq hwf hr hI hs hse hsp
    go_enter Tryd.func35, Tryd.ntmps35
    go_wp2_with (with_reducible refine stop_load 32 (.tmp 1) rfl rfl ?_)
    refine Stop.mk (wpList_loadB rfl _ _ rfl w.heap.size rfl _ B0.out.2 strCm (Cmd.arr_size hw.out) ?_)
    go_wp2_with (with_reducible refine stop_store 32 (.tmp 3) (.tmp 4) rfl rfl ?_)
    refine Stop.mk (wpList_storeB rfl _ _ _ rfl (w.heap.size + 1) (c.arr A n) (by first | rfl | simp) rfl _ (blk_new2 _ _ _ _) strCm (Cmd.arr_size hw.out) (by rw [Cmd.arr_size hw.out]; rfl) (Cmd.arr_ones hw.out) ?_)
    intro w1 hb1 hk1
    have R0 := Lib.hid (show CR w w1 c c A n A n from ⟨(B0.out.1.alloc B0.out.1.size _).trans (hk1.oneB (by simp; omega) (by omega)), (B0.out.2.below ((Below.refl _ _).alloc (Nat.le_refl _) _) B0.out.2.lt).kept hk1 (by simp; omega) (by simp), hb1⟩)
    clear hb1 hk1 B0
    obtain ⟨q0, q1, q2, q3, q4, q5, q6, q7⟩ := cmd_cells hw.out R0.out.c
    go_wp2_with (fail)
    go_ret
    refine RetV.bool ?_ R0.out.below
    rw [HK.out]
  · skip
    have hw := Lib.hid hwf
    have HR := Lib.hid hr
    have HI := Lib.hid hI
    have Hs := Lib.hid hs
    have Hse := Lib.hid hse
    have Hsp := Lib.hid hsp
    have B0 := Lib.hid (At.new w 32 (c.arr A n))
    have HK := Lib.hid (show c.ok = false by unfold Cmd.ok; rw [if_neg hk1, if_neg hk5, hq]; simp)
    have j1 : (c.kind == 1) = false := by simpa using hk1
    have j5 : (c.kind == 5) = false := by simpa using hk5
    have y0 : decide (c.dev < 0) = false := by simpa using h1
    have y1 : decide (6 ≤ c.dev) = false := by simp; omega
    have y2 : decide (c.req < 1) = false := by simpa using h3
    have y3 : decide (1099511627776 < c.req) = true := by simpa using h4
    clear h1 h2 h3 h4
    clear hk1 hk5 hq hwf hr hI hs hse hsp
    go_enter Tryd.func35, Tryd.ntmps35
    go_wp2_with (with_reducible refine stop_load 32 (.tmp 1) rfl rfl ?_)
    refine Stop.mk (wpList_loadB rfl _ _ rfl w.heap.size rfl _ B0.out.2 strCm (Cmd.arr_size hw.out) ?_)
    go_wp2_with (with_reducible refine stop_store 32 (.tmp 3) (.tmp 4) rfl rfl ?_)
    refine Stop.mk (wpList_storeB rfl _ _ _ rfl (w.heap.size + 1) (c.arr A n) (by first | rfl | simp) rfl _ (blk_new2 _ _ _ _) strCm (Cmd.arr_size hw.out) (by rw [Cmd.arr_size hw.out]; rfl) (Cmd.arr_ones hw.out) ?_)
    intro w1 hb1 hk1
    have R0 := Lib.hid (show CR w w1 c c A n A n from ⟨(B0.out.1.alloc B0.out.1.size _).trans (hk1.oneB (by simp; omega) (by omega)), (B0.out.2.below ((Below.refl _ _).alloc (Nat.le_refl _) _) B0.out.2.lt).kept hk1 (by simp; omega) (by simp), hb1⟩)
    clear hb1 hk1 B0
    obtain ⟨q0, q1, q2, q3, q4, q5, q6, q7⟩ := cmd_cells hw.out R0.out.c
    go_wp2_with (fail)
    go_ret
    refine RetV.bool ?_ R0.out.below
    rw [HK.out]
set_option maxHeartbeats 4000000 in
set_option maxRecDepth 4000 in
theorem core_Check_2 (c : Cmd) (A : Option Addr) (n : Nat) (w : World) (hwf : c.wf) (hr : c.rng) (hI : InN w A n c.f) (hs : ∀ x ∈ c.f, x.v.s.length ≤ 4294967000) (hse : ∀ x ∈ c.e.p.f, x.s.length ≤ 4294967000) (hsp : ∀ x ∈ c.p.f, x.s.length ≤ 4294967000) (_hme : c.e.p.mask < 4294967296) (hmp : c.p.mask < 4294967296) (_hm : c.mask < 4294967296) (hk : c.kind = 2) (hq : c.rq = true) : Calls Tryd.prog 35 #[.agg (c.arr A n)] w (RetV w (.bool c.ok)) := by
  have hw := Lib.hid hwf
  have HR := Lib.hid hr
  have HI := Lib.hid hI
  have Hs := Lib.hid hs
  have Hse := Lib.hid hse
  have Hsp := Lib.hid hsp
  have B0 := Lib.hid (At.new w 32 (c.arr A n))
  have HK := Lib.hid ((show c.ok = c.okPut by rw [Cmd.ok_2 hk, hq]; rfl))
  have y0 : decide (c.dev < 0) = false := by have := (Cmd.rq_iff.1 hq).1; simpa using this
  have y1 : decide (6 ≤ c.dev) = false := by have := (Cmd.rq_iff.1 hq).2.1; simp; omega
  have y2 : decide (c.req < 1) = false := by have := (Cmd.rq_iff.1 hq).2.2.1; simpa using this
  have y3 : decide (1099511627776 < c.req) = false := by have := (Cmd.rq_iff.1 hq).2.2.2; simpa using this
  have j1 : (c.kind == 1) = false := by rw [hk]; rfl
  have j2 : (c.kind == 2) = true := by rw [hk]; rfl
  have j3 : (c.kind == 3) = false := by rw [hk]; rfl
  have j4 : (c.kind == 4) = false := by rw [hk]; rfl
  have j5 : (c.kind == 5) = false := by rw [hk]; rfl
  have HQ := Lib.hid (show Cmd.rng { c with dev := 0, req := 0, id := 0, base := 0, p := pz } from ⟨by unfold I6; simp only; omega, by unfold I6; simp only; omega, by unfold I6; simp only; omega, by unfold I6; simp only; omega, hr.keep⟩)
  have hv := Lib.hid (show Cmd.wf { c with dev := 0, req := 0, id := 0, base := 0, p := pz } from ⟨hwf.e, rfl⟩)
  clear hk hq hwf hr hI hs hse hsp
  go_enter Tryd.func35, Tryd.ntmps35
  go_wp2_with (with_reducible refine stop_load 32 (.tmp 1) rfl rfl ?_)
  refine Stop.mk (wpList_loadB rfl _ _ rfl w.heap.size rfl _ B0.out.2 strCm (Cmd.arr_size hw.out) ?_)
  go_wp2_with (with_reducible refine stop_store 32 (.tmp 3) (.tmp 4) rfl rfl ?_)
  refine Stop.mk (wpList_storeB rfl _ _ _ rfl (w.heap.size + 1) (c.arr A n) (by first | rfl | simp) rfl _ (blk_new2 _ _ _ _) strCm (Cmd.arr_size hw.out) (by rw [Cmd.arr_size hw.out]; rfl) (Cmd.arr_ones hw.out) ?_)
  intro w1 hb1 hk1
  have R0 := Lib.hid (show CR w w1 c c A n A n from ⟨(B0.out.1.alloc B0.out.1.size _).trans (hk1.oneB (by simp; omega) (by omega)), (B0.out.2.below ((Below.refl _ _).alloc (Nat.le_refl _) _) B0.out.2.lt).kept hk1 (by simp; omega) (by simp), hb1⟩)
  clear hb1 hk1 B0
  obtain ⟨q0, q1, q2, q3, q4, q5, q6, q7⟩ := cmd_cells hw.out R0.out.c
  have s30 := R0.out.r.cell (Cmd.getI hw.out 0 (by omega))
  have s31 := R0.out.r.cell (Cmd.getI hw.out 1 (by omega))
  have s32 := R0.out.r.cell (Cmd.getI hw.out 2 (by omega))
  have s33 := R0.out.r.cell (Cmd.getI hw.out 3 (by omega))
  have sf := fun i => R0.out.r.frozen i
  go_wp2_with (with_reducible refine stop_store 27 (.tmp 61) (.tmp 58) rfl rfl ?_)
  clear s30 s31 s32 s33 sf q0 q1 q2 q3 q4 q5 q6 q7
  replace R0 := Lib.hid (R0.out.set 30 (.int .i64 0) (by have := Cmd.setI (hw.out) (A := A) (n := n) 0 (by omega) 0; simpa using this))
  replace R0 := Lib.hid (R0.out.set 31 (.int .i64 0) (by have := Cmd.setI (show Cmd.wf ({ c with dev := 0 } : Cmd) from ⟨hw.out.e, hw.out.p⟩) (A := A) (n := n) 1 (by omega) 0; simpa using this))
  replace R0 := Lib.hid (R0.out.set 32 (.int .i64 0) (by have := Cmd.setI (show Cmd.wf ({ c with dev := 0, req := 0 } : Cmd) from ⟨hw.out.e, hw.out.p⟩) (A := A) (n := n) 2 (by omega) 0; simpa using this))
  replace R0 := Lib.hid (R0.out.set 33 (.int .i64 0) (by have := Cmd.setI (show Cmd.wf ({ c with dev := 0, req := 0, id := 0 } : Cmd) from ⟨hw.out.e, hw.out.p⟩) (A := A) (n := n) 3 (by omega) 0; simpa using this))
  refine Stop.mk (wpList_storeAt rfl _ _ _ rfl (w.heap.size + 1) 35 pz.arr rfl (by rw [pz_cells]; rfl) _ R0.out.r strP (by rw [Patch.arr_size]; rfl) (by rw [Patch.arr_size, Cmd.arr_size (show Cmd.wf ({ c with dev := 0, req := 0, id := 0, base := 0 } : Cmd) from ⟨hw.out.e, hw.out.p⟩)]; decide) (Patch.arr_one pz) ?_)
  intro w3 hb3 hk3
  replace R0 := Lib.hid (R0.out.put hk3 (show Blk w3 (w.heap.size + 1) (Cmd.arr { c with dev := 0, req := 0, id := 0, base := 0, p := pz } A n) by rw [← Cmd.putP (show Cmd.wf ({ c with dev := 0, req := 0, id := 0, base := 0 } : Cmd) from ⟨hw.out.e, hw.out.p⟩) pz rfl]; exact hb3))
  clear hb3 hk3
  go_wp2_with (with_reducible refine stop_load 32 (.tmp 3) rfl rfl ?_)
  refine Stop.mk (wpList_loadB rfl _ _ rfl (w.heap.size + 1) rfl _ R0.out.r strCm (Cmd.arr_size hv.out) ?_)
  go_wp2_with (fail)
  refine (c_core_bare { c with dev := 0, req := 0, id := 0, base := 0, p := pz } _ _ _ hv.out HQ.out).mono ?_
  rintro e w2 ⟨rfl, hb2⟩
  replace R0 := Lib.hid (R0.out.step hb2)
  clear hb2
  obtain ⟨q0, q1, q2, q3, q4, q5, q6, q7⟩ := cmd_cells hw.out R0.out.c
  obtain ⟨V, hV⟩ : ∃ V, V = ({ c with dev := 0, req := 0, id := 0, base := 0, p := pz } : Cmd).bare := ⟨_, rfl⟩
  have HV := Lib.hid hV
  rw [← hV]
  clear hV
  cases V
  case false =>
    go_wp2_with (fail)
    go_ret
    refine RetV.bool ?_ R0.out.below
    rw [HK.out]
    unfold Cmd.okPut
    rw [← HV.out]
    rfl
  case true =>
    cases hP : (decide (1 ≤ c.id ∧ c.id ≤ 1073741823 ∧ 1 ≤ c.base ∧ c.base ≤ 1099511627776))
    case false =>
      have HP := Lib.hid hP
      have HP2 := Lib.hid (show ¬ (1 ≤ c.id ∧ c.id ≤ 1073741823 ∧ 1 ≤ c.base ∧ c.base ≤ 1099511627776) by simpa using hP)
      clear hP
      go_wp2_with (fail)
      all_goals first
        | (go_ret
           refine RetV.bool ?_ R0.out.below
           rw [HK.out]
           unfold Cmd.okPut
           rw [← HV.out, HP.out]
           rfl)
        | (exfalso; have := HP2.out; simp_all; done)
        | (exfalso; have := HP2.out; simp_all; omega)
    case true =>
      have HP := Lib.hid hP
      obtain ⟨i1, i2, i3, i4⟩ : 1 ≤ c.id ∧ c.id ≤ 1073741823 ∧ 1 ≤ c.base ∧ c.base ≤ 1099511627776 := by simpa using hP
      have x1 : decide (1 ≤ c.id) = true := by simpa using i1
      have x2 : decide (c.id < 1073741824) = true := by simp; omega
      have x3 : decide (1 ≤ c.base) = true := by simpa using i3
      have x4 : decide (c.base ≤ 1099511627776) = true := by simpa using i4
      clear hP i1 i2 i3 i4
      go_wp2_with (with_reducible refine stop_loadG 27 (.tmp 85) rfl ?_)
      refine Stop.mk (wpList_loadAtG (by rfl) _ _ rfl w.heap.size 35 rfl c.p.arr (cmd_patch hw.out R0.out.c) strP (by rw [Patch.arr_size, hw.out.p]) ?_)
      go_wp2_with (fail)
      refine (c_card_CheckPatch c.p _ hmp hw.out.p Hsp.out).mono ?_
      rintro e w4 ⟨rfl, hb4⟩
      replace R0 := Lib.hid (R0.out.step hb4)
      go_wp2_with (fail)
      go_ret
      refine RetV.bool ?_ R0.out.below
      rw [HK.out]
      unfold Cmd.okPut
      rw [← HV.out, HP.out, beq_zi]
      rfl
set_option maxHeartbeats 4000000 in
set_option maxRecDepth 4000 in
theorem core_Check_3 (c : Cmd) (A : Option Addr) (n : Nat) (w : World) (hwf : c.wf) (hr : c.rng) (hI : InN w A n c.f) (hs : ∀ x ∈ c.f, x.v.s.length ≤ 4294967000) (hse : ∀ x ∈ c.e.p.f, x.s.length ≤ 4294967000) (hsp : ∀ x ∈ c.p.f, x.s.length ≤ 4294967000) (_hme : c.e.p.mask < 4294967296) (_hmp : c.p.mask < 4294967296) (hm : c.mask < 4294967296) (hk : c.kind = 3) (hq : c.rq = true) : Calls Tryd.prog 35 #[.agg (c.arr A n)] w (RetV w (.bool c.ok)) := by
  have hw := Lib.hid hwf
  have HR := Lib.hid hr
  have HI := Lib.hid hI
  have Hs := Lib.hid hs
  have Hse := Lib.hid hse
  have Hsp := Lib.hid hsp
  have B0 := Lib.hid (At.new w 32 (c.arr A n))
  have HK := Lib.hid ((show c.ok = c.okSub by rw [Cmd.ok_3 hk, hq]; rfl))
  have y0 : decide (c.dev < 0) = false := by have := (Cmd.rq_iff.1 hq).1; simpa using this
  have y1 : decide (6 ≤ c.dev) = false := by have := (Cmd.rq_iff.1 hq).2.1; simp; omega
  have y2 : decide (c.req < 1) = false := by have := (Cmd.rq_iff.1 hq).2.2.1; simpa using this
  have y3 : decide (1099511627776 < c.req) = false := by have := (Cmd.rq_iff.1 hq).2.2.2; simpa using this
  have j1 : (c.kind == 1) = false := by rw [hk]; rfl
  have j2 : (c.kind == 2) = false := by rw [hk]; rfl
  have j3 : (c.kind == 3) = true := by rw [hk]; rfl
  have j4 : (c.kind == 4) = false := by rw [hk]; rfl
  have j5 : (c.kind == 5) = false := by rw [hk]; rfl
  have HQ := Lib.hid (show Cmd.rng { c with dev := 0, req := 0, f := [], mask := 0 } from ⟨by unfold I6; simp only; omega, by unfold I6; simp only; omega, hr.id, hr.base, hr.keep⟩)
  have hv := Lib.hid (show Cmd.wf { c with dev := 0, req := 0, f := [], mask := 0 } from ⟨hwf.e, hwf.p⟩)
  clear hk hq hwf hr hI hs hse hsp
  go_enter Tryd.func35, Tryd.ntmps35
  go_wp2_with (with_reducible refine stop_load 32 (.tmp 1) rfl rfl ?_)
  refine Stop.mk (wpList_loadB rfl _ _ rfl w.heap.size rfl _ B0.out.2 strCm (Cmd.arr_size hw.out) ?_)
  go_wp2_with (with_reducible refine stop_store 32 (.tmp 3) (.tmp 4) rfl rfl ?_)
  refine Stop.mk (wpList_storeB rfl _ _ _ rfl (w.heap.size + 1) (c.arr A n) (by first | rfl | simp) rfl _ (blk_new2 _ _ _ _) strCm (Cmd.arr_size hw.out) (by rw [Cmd.arr_size hw.out]; rfl) (Cmd.arr_ones hw.out) ?_)
  intro w1 hb1 hk1
  have R0 := Lib.hid (show CR w w1 c c A n A n from ⟨(B0.out.1.alloc B0.out.1.size _).trans (hk1.oneB (by simp; omega) (by omega)), (B0.out.2.below ((Below.refl _ _).alloc (Nat.le_refl _) _) B0.out.2.lt).kept hk1 (by simp; omega) (by simp), hb1⟩)
  clear hb1 hk1 B0
  obtain ⟨q0, q1, q2, q3, q4, q5, q6, q7⟩ := cmd_cells hw.out R0.out.c
  have s30 := R0.out.r.cell (Cmd.getI hw.out 0 (by omega))
  have s31 := R0.out.r.cell (Cmd.getI hw.out 1 (by omega))
  have s61 := R0.out.r.cell (Cmd.getF hw.out 0 (by omega))
  have s62 := R0.out.r.cell (Cmd.getF hw.out 1 (by omega))
  have sf := fun i => R0.out.r.frozen i
  go_wp2_with (with_reducible refine stop_load 32 (.tmp 3) rfl rfl ?_)
  clear s30 s31 s61 s62 sf q0 q1 q2 q3 q4 q5 q6 q7
  replace R0 := Lib.hid (R0.out.set 30 (.int .i64 0) (by have := Cmd.setI (hw.out) (A := A) (n := n) 0 (by omega) 0; simpa using this))
  replace R0 := Lib.hid (R0.out.set 31 (.int .i64 0) (by have := Cmd.setI (show Cmd.wf ({ c with dev := 0 } : Cmd) from ⟨hw.out.e, hw.out.p⟩) (A := A) (n := n) 1 (by omega) 0; simpa using this))
  replace R0 := Lib.hid (R0.out.set 61 (.slice none 0 0) (Cmd.setF (show Cmd.wf ({ c with dev := 0, req := 0 } : Cmd) from ⟨hw.out.e, hw.out.p⟩) none [] 0))
  replace R0 := Lib.hid (R0.out.set 62 (.int .u32 0) (Cmd.setM (show Cmd.wf ({ c with dev := 0, req := 0, f := [] } : Cmd) from ⟨hw.out.e, hw.out.p⟩) 0))
  refine Stop.mk (wpList_loadB rfl _ _ rfl (w.heap.size + 1) rfl _ R0.out.r strCm (Cmd.arr_size hv.out) ?_)
  go_wp2_with (fail)
  refine (c_core_bare { c with dev := 0, req := 0, f := [], mask := 0 } _ _ _ hv.out HQ.out).mono ?_
  rintro e w2 ⟨rfl, hb2⟩
  replace R0 := Lib.hid (R0.out.step hb2)
  clear hb2
  obtain ⟨q0, q1, q2, q3, q4, q5, q6, q7⟩ := cmd_cells hw.out R0.out.c
  obtain ⟨V, hV⟩ : ∃ V, V = ({ c with dev := 0, req := 0, f := [], mask := 0 } : Cmd).bare := ⟨_, rfl⟩
  have HV := Lib.hid hV
  rw [← hV]
  clear hV
  cases V
  case false =>
    go_wp2_with (fail)
    go_ret
    refine RetV.bool ?_ R0.out.below
    rw [HK.out]
    unfold Cmd.okSub
    rw [← HV.out]
    rfl
  case true =>
    have hck := fun w' (h : InN w' A n c.f) => c_pred_Check c.f A n w' h (fun x hx => by have := Hs.out x hx; omega)
    have HC := Lib.hid hck
    clear hck
    cases hP : decide (check c.f = 0)
    all_goals
      have HP := Lib.hid hP
      have x1 : (check c.f == 0) = decide (check c.f = 0) := beq_zi _
      rw [hP] at x1
      clear hP
      go_wp2_with (fail)
      refine (HC.out _ (HI.out.below R0.out.below)).mono ?_
      rintro e w4 ⟨rfl, hb4⟩
      replace R0 := Lib.hid (R0.out.step hb4)
      clear hb4 q0 q1 q2 q3 q4 q5 q6 q7
      obtain ⟨q0, q1, q2, q3, q4, q5, q6, q7⟩ := cmd_cells hw.out R0.out.c
      go_wp2_with (fail)
      first
        | (go_ret
           refine RetV.bool ?_ R0.out.below
           rw [HK.out]
           unfold Cmd.okSub
           rw [← HV.out]
           have := HP.out
           simp at this
           simp [this]
           done)
        | (refine (c_mask_Check c.mask hm _).mono ?_
           rintro e w5 ⟨rfl, hb5⟩
           replace R0 := Lib.hid (R0.out.step hb5)
           go_wp2_with (fail)
           go_ret
           refine RetV.bool ?_ R0.out.below
           rw [HK.out]
           unfold Cmd.okSub
           rw [← HV.out]
           have h := HP.out
           simp at h
           simp [h]
           omega)
set_option maxHeartbeats 4000000 in
set_option maxRecDepth 4000 in
theorem core_Check_4 (c : Cmd) (A : Option Addr) (n : Nat) (w : World) (hwf : c.wf) (hr : c.rng) (hI : InN w A n c.f) (hs : ∀ x ∈ c.f, x.v.s.length ≤ 4294967000) (hse : ∀ x ∈ c.e.p.f, x.s.length ≤ 4294967000) (hsp : ∀ x ∈ c.p.f, x.s.length ≤ 4294967000) (_hme : c.e.p.mask < 4294967296) (_hmp : c.p.mask < 4294967296) (_hm : c.mask < 4294967296) (hk : c.kind = 4) (hq : c.rq = true) : Calls Tryd.prog 35 #[.agg (c.arr A n)] w (RetV w (.bool c.ok)) := by
  have hw := Lib.hid hwf
  have HR := Lib.hid hr
  have HI := Lib.hid hI
  have Hs := Lib.hid hs
  have Hse := Lib.hid hse
  have Hsp := Lib.hid hsp
  have B0 := Lib.hid (At.new w 32 (c.arr A n))
  have HK := Lib.hid ((show c.ok = c.okLeave by rw [Cmd.ok_4 hk, hq]; rfl))
  have y0 : decide (c.dev < 0) = false := by have := (Cmd.rq_iff.1 hq).1; simpa using this
  have y1 : decide (6 ≤ c.dev) = false := by have := (Cmd.rq_iff.1 hq).2.1; simp; omega
  have y2 : decide (c.req < 1) = false := by have := (Cmd.rq_iff.1 hq).2.2.1; simpa using this
  have y3 : decide (1099511627776 < c.req) = false := by have := (Cmd.rq_iff.1 hq).2.2.2; simpa using this
  have j1 : (c.kind == 1) = false := by rw [hk]; rfl
  have j2 : (c.kind == 2) = false := by rw [hk]; rfl
  have j3 : (c.kind == 3) = false := by rw [hk]; rfl
  have j4 : (c.kind == 4) = true := by rw [hk]; rfl
  have j5 : (c.kind == 5) = false := by rw [hk]; rfl
  have HQ := Lib.hid (show Cmd.rng { c with dev := 0, req := 0 } from ⟨by unfold I6; simp only; omega, by unfold I6; simp only; omega, hr.id, hr.base, hr.keep⟩)
  have hv := Lib.hid (show Cmd.wf { c with dev := 0, req := 0 } from ⟨hwf.e, hwf.p⟩)
  clear hk hq hwf hr hI hs hse hsp
  go_enter Tryd.func35, Tryd.ntmps35
  go_wp2_with (with_reducible refine stop_load 32 (.tmp 1) rfl rfl ?_)
  refine Stop.mk (wpList_loadB rfl _ _ rfl w.heap.size rfl _ B0.out.2 strCm (Cmd.arr_size hw.out) ?_)
  go_wp2_with (with_reducible refine stop_store 32 (.tmp 3) (.tmp 4) rfl rfl ?_)
  refine Stop.mk (wpList_storeB rfl _ _ _ rfl (w.heap.size + 1) (c.arr A n) (by first | rfl | simp) rfl _ (blk_new2 _ _ _ _) strCm (Cmd.arr_size hw.out) (by rw [Cmd.arr_size hw.out]; rfl) (Cmd.arr_ones hw.out) ?_)
  intro w1 hb1 hk1
  have R0 := Lib.hid (show CR w w1 c c A n A n from ⟨(B0.out.1.alloc B0.out.1.size _).trans (hk1.oneB (by simp; omega) (by omega)), (B0.out.2.below ((Below.refl _ _).alloc (Nat.le_refl _) _) B0.out.2.lt).kept hk1 (by simp; omega) (by simp), hb1⟩)
  clear hb1 hk1 B0
  obtain ⟨q0, q1, q2, q3, q4, q5, q6, q7⟩ := cmd_cells hw.out R0.out.c
  have s30 := R0.out.r.cell (Cmd.getI hw.out 0 (by omega))
  have s31 := R0.out.r.cell (Cmd.getI hw.out 1 (by omega))
  have sf := fun i => R0.out.r.frozen i
  go_wp2_with (with_reducible refine stop_loadG 32 (.tmp 3) rfl ?_)
  clear s30 s31 sf q0 q1 q2 q3 q4 q5 q6 q7
  replace R0 := Lib.hid (R0.out.set 30 (.int .i64 0) (by have := Cmd.setI (hw.out) (A := A) (n := n) 0 (by omega) 0; simpa using this))
  replace R0 := Lib.hid (R0.out.set 31 (.int .i64 0) (by have := Cmd.setI (show Cmd.wf ({ c with dev := 0 } : Cmd) from ⟨hw.out.e, hw.out.p⟩) (A := A) (n := n) 1 (by omega) 0; simpa using this))
  refine Stop.mk (wpList_loadAtG (by rfl) _ _ rfl (w.heap.size + 1) 0 rfl _ R0.out.r.all strCm (Cmd.arr_size hv.out) ?_)
  go_wp2_with (fail)
  refine (c_core_bare { c with dev := 0, req := 0 } _ _ _ hv.out HQ.out).mono ?_
  rintro e w2 ⟨rfl, hb2⟩
  replace R0 := Lib.hid (R0.out.step hb2)
  clear hb2
  obtain ⟨q0, q1, q2, q3, q4, q5, q6, q7⟩ := cmd_cells hw.out R0.out.c
  go_wp2_with (fail)
  go_ret
  refine RetV.bool ?_ R0.out.below
  rw [HK.out]
  rfl
set_option maxHeartbeats 4000000 in
set_option maxRecDepth 4000 in
theorem core_Check_none (c : Cmd) (A : Option Addr) (n : Nat) (w : World) (hwf : c.wf) (hr : c.rng) (hI : InN w A n c.f) (hs : ∀ x ∈ c.f, x.v.s.length ≤ 4294967000) (hse : ∀ x ∈ c.e.p.f, x.s.length ≤ 4294967000) (hsp : ∀ x ∈ c.p.f, x.s.length ≤ 4294967000) (_hme : c.e.p.mask < 4294967296) (_hmp : c.p.mask < 4294967296) (_hm : c.mask < 4294967296) (hk : ¬ (1 ≤ c.kind ∧ c.kind ≤ 5)) (hq : c.rq = true) : Calls Tryd.prog 35 #[.agg (c.arr A n)] w (RetV w (.bool c.ok)) := by
  have hw := Lib.hid hwf
  have HR := Lib.hid hr
  have HI := Lib.hid hI
  have Hs := Lib.hid hs
  have Hse := Lib.hid hse
  have Hsp := Lib.hid hsp
  have B0 := Lib.hid (At.new w 32 (c.arr A n))
  have HK := Lib.hid (show c.ok = false from Cmd.ok_no hk)
  have y0 : decide (c.dev < 0) = false := by have := (Cmd.rq_iff.1 hq).1; simpa using this
  have y1 : decide (6 ≤ c.dev) = false := by have := (Cmd.rq_iff.1 hq).2.1; simp; omega
  have y2 : decide (c.req < 1) = false := by have := (Cmd.rq_iff.1 hq).2.2.1; simpa using this
  have y3 : decide (1099511627776 < c.req) = false := by have := (Cmd.rq_iff.1 hq).2.2.2; simpa using this
  have j1 : (c.kind == 1) = false := by simp only [beq_eq_false_iff_ne, ne_eq]; omega
  have j2 : (c.kind == 2) = false := by simp only [beq_eq_false_iff_ne, ne_eq]; omega
  have j3 : (c.kind == 3) = false := by simp only [beq_eq_false_iff_ne, ne_eq]; omega
  have j4 : (c.kind == 4) = false := by simp only [beq_eq_false_iff_ne, ne_eq]; omega
  have j5 : (c.kind == 5) = false := by simp only [beq_eq_false_iff_ne, ne_eq]; omega
  clear hk hq hwf hr hI hs hse hsp
  go_enter Tryd.func35, Tryd.ntmps35
  go_wp2_with (with_reducible refine stop_load 32 (.tmp 1) rfl rfl ?_)
  refine Stop.mk (wpList_loadB rfl _ _ rfl w.heap.size rfl _ B0.out.2 strCm (Cmd.arr_size hw.out) ?_)
  go_wp2_with (with_reducible refine stop_store 32 (.tmp 3) (.tmp 4) rfl rfl ?_)
  refine Stop.mk (wpList_storeB rfl _ _ _ rfl (w.heap.size + 1) (c.arr A n) (by first | rfl | simp) rfl _ (blk_new2 _ _ _ _) strCm (Cmd.arr_size hw.out) (by rw [Cmd.arr_size hw.out]; rfl) (Cmd.arr_ones hw.out) ?_)
  intro w1 hb1 hk1
  have R0 := Lib.hid (show CR w w1 c c A n A n from ⟨(B0.out.1.alloc B0.out.1.size _).trans (hk1.oneB (by simp; omega) (by omega)), (B0.out.2.below ((Below.refl _ _).alloc (Nat.le_refl _) _) B0.out.2.lt).kept hk1 (by simp; omega) (by simp), hb1⟩)
  clear hb1 hk1 B0
  obtain ⟨q0, q1, q2, q3, q4, q5, q6, q7⟩ := cmd_cells hw.out R0.out.c
  have s30 := R0.out.r.cell (Cmd.getI hw.out 0 (by omega))
  have s31 := R0.out.r.cell (Cmd.getI hw.out 1 (by omega))
  have sf := fun i => R0.out.r.frozen i
  go_wp2_with (fail)
  go_ret
  refine RetV.bool ?_ ((R0.out.below.setCell (p := ⟨w.heap.size + 1, 30, none⟩) (by simp) _).setCell (p := ⟨w.heap.size + 1, 31, none⟩) (by simp) _)
  rw [HK.out]
theorem c_core_Check (c : Cmd) (A : Option Addr) (n : Nat) (w : World) (hwf : c.wf) (hr : c.rng) (hI : InN w A n c.f) (hs : ∀ x ∈ c.f, x.v.s.length ≤ 4294967000) (hse : ∀ x ∈ c.e.p.f, x.s.length ≤ 4294967000) (hsp : ∀ x ∈ c.p.f, x.s.length ≤ 4294967000) (hme : c.e.p.mask < 4294967296) (hmp : c.p.mask < 4294967296) (hm : c.mask < 4294967296) : Calls Tryd.prog 35 #[.agg (c.arr A n)] w (RetV w (.bool c.ok)) := by
  by_cases h1 : c.kind = 1
  · exact core_Check_1 c A n w hwf hr hI hs hse hsp hme hmp hm h1
  by_cases h5 : c.kind = 5
  · exact core_Check_5 c A n w hwf hr hI hs hse hsp hme hmp hm h5
  cases hq : c.rq
  · exact core_Check_bad c A n w hwf hr hI hs hse hsp hme hmp hm h1 h5 hq
  by_cases h2 : c.kind = 2
  · exact core_Check_2 c A n w hwf hr hI hs hse hsp hme hmp hm h2 hq
  by_cases h3 : c.kind = 3
  · exact core_Check_3 c A n w hwf hr hI hs hse hsp hme hmp hm h3 hq
  by_cases h4 : c.kind = 4
  · exact core_Check_4 c A n w hwf hr hI hs hse hsp hme hmp hm h4 hq
  · exact core_Check_none c A n w hwf hr hI hs hse hsp hme hmp hm (by omega) hq
end Go.Proofs.YtjhndilflcigiaaDoor
