/-
  Lemmas (walks and plain laws), in one text.
-/
import Derived.Test.YtjhndilflcigiaaDoorQc17
import Derived.Test.YtjhndilflcigiaaDoorRows
import Derived.WalkKit
import Derived.WalkSpells
import Derived.WalkLawsBesides
import Derived.Lib.Hide
import Derived.Deep.QuietTactic
import Derived.BigQuiet
import Derived.Maps.AppendAt
import Derived.WalkSmall
import Derived.ProofKit
import Derived.OpenShut
import Derived.JoinedCond
import Derived.Deep.Slices
import Derived.Deep.Fields
import Derived.Carry
import Derived.Deep.AppendSrc
import Derived.Lib.AppendStr
import Derived.Laws.BytesArg
import Derived.Test.YtjhndilflcigiaaDoorProg
import Derived.Shelf.Spec.TrailingZeros
import Derived.RangeFuncNested
import Derived.RangeFuncBound
import Derived.RangeFuncCalls
import Derived.RangeFuncLeaves
import Derived.Shelf.Abstract
import Derived.Shelf.RegionOpen
import Derived.OwnWalkIn
import Derived.TacticsInMore
import Derived.LoopNIn
import Derived.LoopIn
import Derived.Test.YtjhndilflcigiaaDoorTie
import Derived.Lib.LaidTab
import Derived.LaidMore
import Derived.SevenTiedAt
import Derived.Test.YtjhndilflcigiaaDoorCards
import Derived.Laws.Tables
import Derived.Laws.Rows
import Derived.ChangeKeysEq
import Derived.Laws.StructEq
import Derived.Deep.CutBlock
import Derived.Deep.DeepCutAuto
import Derived.Laws.CopyOwn
import Derived.Outline
import Derived.IntWalk
import Derived.Lib.EndianBits
import Derived.StillTail
import Derived.Lib.AppendZeros
import Derived.Deep.Quiet
import Derived.Maps.Own
import Derived.WalkMore
namespace Go.Proofs.YtjhndilflcigiaaDoor
open Go.RowKit

structure Cmd where
  kind : Int
  e : Edit
  dev : Int
  req : Int
  id : Int
  base : Int
  keep : Int
  p : Patch
  f : List Node
  mask : Nat
deriving DecidableEq
abbrev cmdz : Cmd := ⟨0, ez, 0, 0, 0, 0, 0, pz, [], 0⟩
/-- Which fields of a command are zero. -/
def Cmd.eZ (c : Cmd) : Bool := decide (c.e = ez)
def Cmd.pZ (c : Cmd) : Bool := decide (c.p = pz)
def Cmd.fZ (c : Cmd) : Bool := decide (c.f = [] ∧ c.mask = 0)
def Cmd.bare (c : Cmd) : Bool := decide (c.dev = 0 ∧ c.req = 0 ∧ c.id = 0 ∧ c.base = 0 ∧ c.keep = 0) && (c.eZ && (c.pZ && c.fZ))
theorem Cmd.bare_iff {c : Cmd} : c.bare = true ↔ (c.dev = 0 ∧ c.req = 0 ∧ c.id = 0 ∧ c.base = 0 ∧ c.keep = 0) ∧ c.e = ez ∧ c.p = pz ∧ c.f = [] ∧ c.mask = 0 := by
  unfold Cmd.bare Cmd.eZ Cmd.pZ Cmd.fZ; simp only [Bool.and_eq_true, decide_eq_true_eq]
def Cmd.rq (c : Cmd) : Bool := decide (0 ≤ c.dev ∧ c.dev ≤ 5 ∧ 1 ≤ c.req ∧ c.req ≤ 1099511627776)
theorem Cmd.rq_iff {c : Cmd} : c.rq = true ↔ (0 ≤ c.dev ∧ c.dev ≤ 5 ∧ 1 ≤ c.req ∧ c.req ≤ 1099511627776) := by unfold Cmd.rq; exact decide_eq_true_iff
def Cmd.okEdit (c : Cmd) : Bool := ({ c with e := ez } : Cmd).bare && decide (c.e.code = 0)
def Cmd.okTrim (c : Cmd) : Bool := ({ c with keep := 0 } : Cmd).bare && decide (0 ≤ c.keep ∧ c.keep ≤ 1099511627776)
def Cmd.okPut (c : Cmd) : Bool := ({ c with dev := 0, req := 0, id := 0, base := 0, p := pz } : Cmd).bare && (decide (1 ≤ c.id ∧ c.id ≤ 1073741823 ∧ 1 ≤ c.base ∧ c.base ≤ 1099511627776) && decide (c.p.code = 0))
def Cmd.okSub (c : Cmd) : Bool := ({ c with dev := 0, req := 0, f := [], mask := 0 } : Cmd).bare && decide (check c.f = 0 ∧ c.mask < 512)
def Cmd.okLeave (c : Cmd) : Bool := ({ c with dev := 0, req := 0 } : Cmd).bare
def Cmd.ok (c : Cmd) : Bool :=
  if c.kind = 1 then c.okEdit else if c.kind = 5 then c.okTrim
  else if c.kind = 2 then c.rq && c.okPut else if c.kind = 3 then c.rq && c.okSub else if c.kind = 4 then c.rq && c.okLeave else false
theorem Cmd.ok_1 {c : Cmd} (h : c.kind = 1) : c.ok = c.okEdit := by unfold Cmd.ok; rw [if_pos h]
theorem Cmd.ok_5 {c : Cmd} (h : c.kind = 5) : c.ok = c.okTrim := by unfold Cmd.ok; rw [if_neg (by omega), if_pos h]
theorem Cmd.ok_2 {c : Cmd} (h : c.kind = 2) : c.ok = (c.rq && c.okPut) := by unfold Cmd.ok; rw [if_neg (by omega), if_neg (by omega), if_pos h]
theorem Cmd.ok_3 {c : Cmd} (h : c.kind = 3) : c.ok = (c.rq && c.okSub) := by unfold Cmd.ok; rw [if_neg (by omega), if_neg (by omega), if_neg (by omega), if_pos h]
theorem Cmd.ok_4 {c : Cmd} (h : c.kind = 4) : c.ok = (c.rq && c.okLeave) := by unfold Cmd.ok; rw [if_neg (by omega), if_neg (by omega), if_neg (by omega), if_neg (by omega), if_pos h]
theorem Cmd.ok_no {c : Cmd} (h : ¬ (1 ≤ c.kind ∧ c.kind ≤ 5)) : c.ok = false := by unfold Cmd.ok; rw [if_neg (by omega), if_neg (by omega), if_neg (by omega), if_neg (by omega), if_neg (by omega)]
theorem Cmd.ok_kind {c : Cmd} (h : c.ok = true) : 1 ≤ c.kind ∧ c.kind ≤ 5 := by
  rcases Classical.em (1 ≤ c.kind ∧ c.kind ≤ 5) with h' | h'
  · exact h'
  · rw [Cmd.ok_no h'] at h; cases h
/-- A command's bytes. -/
def cmdT (c : Cmd) : List UInt8 :=
  if c.kind = 1 then editB c.e else if c.kind = 5 then num c.keep
  else num c.dev ++ (num c.req ++ (if c.kind = 2 then num c.id ++ (num c.base ++ patchB c.p) else if c.kind = 3 then putB c.f ++ num c.mask else []))
def cmdB (c : Cmd) : List UInt8 := if c.ok then num c.kind ++ cmdT c else []
theorem cmdB_bad {c : Cmd} (h : c.ok = false) : cmdB c = [] := by unfold cmdB; rw [h]; rfl
theorem cmdB_ok {c : Cmd} (h : c.ok = true) : cmdB c = num c.kind ++ cmdT c := by unfold cmdB; rw [if_pos h]
theorem cmdT_1 {c : Cmd} (h : c.kind = 1) : cmdT c = editB c.e := by unfold cmdT; rw [if_pos h]
theorem cmdT_5 {c : Cmd} (h : c.kind = 5) : cmdT c = num c.keep := by unfold cmdT; rw [if_neg (by omega), if_pos h]
theorem cmdT_2 {c : Cmd} (h : c.kind = 2) : cmdT c = num c.dev ++ (num c.req ++ (num c.id ++ (num c.base ++ patchB c.p))) := by unfold cmdT; rw [if_neg (by omega), if_neg (by omega), if_pos h]
theorem cmdT_3 {c : Cmd} (h : c.kind = 3) : cmdT c = num c.dev ++ (num c.req ++ (putB c.f ++ num c.mask)) := by unfold cmdT; rw [if_neg (by omega), if_neg (by omega), if_neg (by omega), if_pos h]
theorem cmdT_4 {c : Cmd} (h : c.kind = 4) : cmdT c = num c.dev ++ num c.req := by unfold cmdT; rw [if_neg (by omega), if_neg (by omega), if_neg (by omega), if_neg (by omega), List.append_nil]
theorem editB_len' (e : Edit) : (editB e).length ≤ 353 := by
  have h1 := (num_len e.kind).2
  have h2 := (num_len e.group).2
  have h3 := (num_len e.id).2
  have h4 := patchB_len e.p
  unfold editB
  cases hasG e.kind <;> cases hasI e.kind <;> cases hasP e.kind <;> split <;> simp <;> omega
theorem cmdB_len (c : Cmd) : (cmdB c).length ≤ 2000 := by
  have h1 := (num_len c.kind).2
  have h2 := (num_len c.dev).2
  have h3 := (num_len c.req).2
  have h4 := (num_len c.id).2
  have h5 := (num_len c.base).2
  have h6 := (num_len c.keep).2
  have h7 := (num_len (c.mask : Int)).2
  have h8 := putB_len c.f
  have h9 := patchB_len c.p
  have h10 := editB_len' c.e
  unfold cmdB cmdT
  split
  · split
    · simp; omega
    · split
      · simp; omega
      · split
        · simp; omega
        · split <;> simp <;> omega
  · simp
/-! What is read as a command. -/
def cmK (st : Rd) : Int := rdN st 5
def cmA (st : Rd) : Rd := rdAb' st 5
def cmB (st : Rd) : Rd := rdN' (cmA st) 5
def cmC (st : Rd) : Rd := rdAb' (cmB st) 1099511627776
def cmD (st : Rd) : Rd := rdAb' (cmC st) 1073741823
def cmE (st : Rd) : Rd := rdAb' (cmD st) 1099511627776
def cmF (st : Rd) : Rd := rdPred' (cmC st)
def rdCmdRaw' (st : Rd) : Rd :=
  if cmK st = 1 then rdEdit' (cmA st) else if cmK st = 5 then rdN' (cmA st) 1099511627776
  else if cmK st = 2 then rdPatch' (cmE st) else if cmK st = 3 then rdN' (cmF st) 511 else cmC st
def rdCmdRaw (st : Rd) : Cmd :=
  if cmK st = 1 then { cmdz with kind := 1, e := rdEdit (cmA st) } else if cmK st = 5 then { cmdz with kind := 5, keep := rdN (cmA st) 1099511627776 }
  else if cmK st = 2 then { cmdz with kind := 2, dev := rdN (cmA st) 5, req := rdN (cmB st) 1099511627776, id := rdN (cmC st) 1073741823, base := rdN (cmD st) 1099511627776, p := rdPatch (cmE st) }
  else if cmK st = 3 then { cmdz with kind := 3, dev := rdN (cmA st) 5, req := rdN (cmB st) 1099511627776, f := rdPred (cmC st), mask := (rdN (cmF st) 511).toNat }
  else { cmdz with kind := cmK st, dev := rdN (cmA st) 5, req := rdN (cmB st) 1099511627776 }
@[irreducible] def rdCmd' (st : Rd) : Rd := rdCmdRaw' st
@[irreducible] def rdCmd (st : Rd) : Cmd := if (rdCmdRaw' st).e = 0 then rdCmdRaw st else cmdz
theorem rdCmd'_def (st : Rd) : rdCmd' st = rdCmdRaw' st := by unfold rdCmd'; rfl
theorem rdCmd_ok {st : Rd} (h : (rdCmd' st).e = 0) : rdCmd st = rdCmdRaw st := by rw [rdCmd'_def] at h; unfold rdCmd; rw [if_pos h]
theorem rdCmd_bad {st : Rd} (h : (rdCmd' st).e ≠ 0) : rdCmd st = cmdz := by rw [rdCmd'_def] at h; unfold rdCmd; rw [if_neg h]
theorem cm_1 {st : Rd} (h : cmK st = 1) : rdCmd' st = rdEdit' (cmA st) ∧ rdCmdRaw st = { cmdz with kind := 1, e := rdEdit (cmA st) } := by
  rw [rdCmd'_def]; unfold rdCmdRaw' rdCmdRaw; rw [if_pos h, if_pos h]; exact ⟨rfl, rfl⟩
theorem cm_5 {st : Rd} (h : cmK st = 5) : rdCmd' st = rdN' (cmA st) 1099511627776 ∧ rdCmdRaw st = { cmdz with kind := 5, keep := rdN (cmA st) 1099511627776 } := by
  rw [rdCmd'_def]; unfold rdCmdRaw' rdCmdRaw; rw [if_neg (by omega), if_pos h, if_neg (by omega), if_pos h]; exact ⟨rfl, rfl⟩
theorem cm_2 {st : Rd} (h : cmK st = 2) : rdCmd' st = rdPatch' (cmE st) ∧ rdCmdRaw st = { cmdz with kind := 2, dev := rdN (cmA st) 5, req := rdN (cmB st) 1099511627776, id := rdN (cmC st) 1073741823, base := rdN (cmD st) 1099511627776, p := rdPatch (cmE st) } := by
  rw [rdCmd'_def]; unfold rdCmdRaw' rdCmdRaw; rw [if_neg (by omega), if_neg (by omega), if_pos h, if_neg (by omega), if_neg (by omega), if_pos h]; exact ⟨rfl, rfl⟩
theorem cm_3 {st : Rd} (h : cmK st = 3) : rdCmd' st = rdN' (cmF st) 511 ∧ rdCmdRaw st = { cmdz with kind := 3, dev := rdN (cmA st) 5, req := rdN (cmB st) 1099511627776, f := rdPred (cmC st), mask := (rdN (cmF st) 511).toNat } := by
  rw [rdCmd'_def]; unfold rdCmdRaw' rdCmdRaw; rw [if_neg (by omega), if_neg (by omega), if_neg (by omega), if_pos h, if_neg (by omega), if_neg (by omega), if_neg (by omega), if_pos h]; exact ⟨rfl, rfl⟩
theorem cm_4 {st : Rd} (h : cmK st = 0 ∨ cmK st = 4) : rdCmd' st = cmC st ∧ rdCmdRaw st = { cmdz with kind := cmK st, dev := rdN (cmA st) 5, req := rdN (cmB st) 1099511627776 } := by
  rw [rdCmd'_def]; unfold rdCmdRaw' rdCmdRaw
  rw [if_neg (by omega), if_neg (by omega), if_neg (by omega), if_neg (by omega), if_neg (by omega), if_neg (by omega), if_neg (by omega), if_neg (by omega)]; exact ⟨rfl, rfl⟩
theorem cmK_cases (st : Rd) : cmK st = 0 ∨ cmK st = 1 ∨ cmK st = 2 ∨ cmK st = 3 ∨ cmK st = 4 ∨ cmK st = 5 := by have := rdN_bd st 5; unfold cmK; omega
theorem cmA_err {st : Rd} (h : (cmA st).e ≠ 0) : cmB st = cmA st ∧ cmC st = cmA st := by
  have h1 : cmB st = cmA st := (rdN_err h).2
  exact ⟨h1, by unfold cmC; rw [h1]; exact rdAb'_bad h⟩
/-- Without a kind there is an error. -/
theorem cmK_zero {st : Rd} (h : cmK st = 0) : (cmA st).e ≠ 0 := by unfold cmA; rw [rdAb'_zero h]; exact rdF_bad _ (by decide)
theorem cm_0 {st : Rd} (h : cmK st = 0) : rdCmd' st = cmA st ∧ rdCmd st = cmdz := by
  have h1 := cmK_zero h
  have h2 : rdCmd' st = cmA st := by rw [(cm_4 (.inl h)).1, (cmA_err h1).2]
  exact ⟨h2, rdCmd_bad (by rw [h2]; exact h1)⟩
theorem rdCmd'_len (st : Rd) : (rdCmd' st).s.length ≤ st.s.length := by
  have h1 : (cmA st).s.length ≤ st.s.length := rdAb'_len st 5
  have h2 : (cmB st).s.length ≤ (cmA st).s.length := rdN'_len (cmA st) 5
  have h3 : (cmC st).s.length ≤ (cmB st).s.length := rdAb'_len (cmB st) 1099511627776
  have h4 : (cmD st).s.length ≤ (cmC st).s.length := rdAb'_len (cmC st) 1073741823
  have h5 : (cmE st).s.length ≤ (cmD st).s.length := rdAb'_len (cmD st) 1099511627776
  have h6 : (cmF st).s.length ≤ (cmC st).s.length := rdPred'_len (cmC st)
  have h7 := rdPatch'_len (cmE st)
  have h8 := rdN'_len (cmF st) 511
  have h9 := rdN'_len (cmA st) 1099511627776
  have h10 := rdEdit'_len (cmA st)
  rw [rdCmd'_def]
  unfold rdCmdRaw'
  repeat' split
  all_goals omega
theorem rdCmd_len (st : Rd) : (rdCmd st).e.p.f.length = 8 ∧ (rdCmd st).p.f.length = 8 := by
  unfold rdCmd rdCmdRaw
  repeat' split
  all_goals first
    | exact ⟨rdEdit_len _, rfl⟩
    | exact ⟨rfl, rdPatch_len _⟩
    | exact ⟨rfl, rfl⟩
/-- A command that may be is read of its bytes. -/
theorem rdCmd_put {c : Cmd} (h : c.ok = true) (he : c.e.p.f.length = 8) (hp : c.p.f.length = 8) (r : List UInt8) : rdCmd ⟨cmdB c ++ r, 0⟩ = c ∧ rdCmd' ⟨cmdB c ++ r, 0⟩ = ⟨r, 0⟩ := by
  have hk := Cmd.ok_kind h
  have e0 : cmdB c ++ r = num c.kind ++ (cmdT c ++ r) := by rw [cmdB_ok h, List.append_assoc]
  obtain ⟨st, hst⟩ : ∃ st : Rd, st = ⟨cmdB c ++ r, 0⟩ := ⟨_, rfl⟩
  rw [← hst]
  rw [e0] at hst
  obtain ⟨p1, q1⟩ := rdAb_num (n := c.kind) (most := 5) (cmdT c ++ r) hk.1 (by omega) hk.2
  have hK : cmK st = c.kind := by unfold cmK; rw [hst, p1]
  have hA : cmA st = ⟨cmdT c ++ r, 0⟩ := by unfold cmA; rw [hst, q1]
  clear hst e0 p1 q1
  have hcs : c.kind = 1 ∨ c.kind = 2 ∨ c.kind = 3 ∨ c.kind = 4 ∨ c.kind = 5 := by omega
  rcases hcs with k | k | k | k | k
  · rw [Cmd.ok_1 k] at h
    unfold Cmd.okEdit at h
    obtain ⟨h1, h2⟩ := Bool.and_eq_true_iff.1 h
    obtain ⟨⟨a1, a2, a3, a4, a5⟩, a6, a7, a8, a9⟩ := Cmd.bare_iff.1 h1
    have hcode : c.e.code = 0 := by simpa using h2
    obtain ⟨w1, w2⟩ := cm_1 (st := st) (by rw [hK, k])
    obtain ⟨p2, q2⟩ := rdEdit_put hcode he r
    rw [cmdT_1 k] at hA
    have hS : rdCmd' st = ⟨r, 0⟩ := by rw [w1, hA, q2]
    refine ⟨?_, hS⟩
    rw [rdCmd_ok (by rw [hS]), w2, hA, p2]
    obtain ⟨kind, e, dev, req, id, base, keep, p, f, mask⟩ := c
    simp only at k a1 a2 a3 a4 a5 a6 a7 a8 a9
    subst k a1 a2 a3 a4 a5 a7 a8 a9
    rfl
  · rw [Cmd.ok_2 k] at h
    obtain ⟨h0, h⟩ := Bool.and_eq_true_iff.1 h
    obtain ⟨r1, r2, r3, r4⟩ := Cmd.rq_iff.1 h0
    unfold Cmd.okPut at h
    obtain ⟨h1, h2⟩ := Bool.and_eq_true_iff.1 h
    obtain ⟨⟨a1, a2, a3, a4, a5⟩, a6, a7, a8, a9⟩ := Cmd.bare_iff.1 h1
    obtain ⟨h3, h4⟩ := Bool.and_eq_true_iff.1 h2
    obtain ⟨i1, i2, i3, i4⟩ : 1 ≤ c.id ∧ c.id ≤ 1073741823 ∧ 1 ≤ c.base ∧ c.base ≤ 1099511627776 := by simpa using h3
    have hcode : c.p.code = 0 := by simpa using h4
    obtain ⟨w1, w2⟩ := cm_2 (st := st) (by rw [hK, k])
    rw [cmdT_2 k] at hA
    simp only [List.append_assoc] at hA
    obtain ⟨p2, q2⟩ := rdN_num (n := c.dev) (most := 5) (num c.req ++ (num c.id ++ (num c.base ++ (patchB c.p ++ r)))) r1 (by omega) r2
    obtain ⟨p3, q3⟩ := rdAb_num (n := c.req) (most := 1099511627776) (num c.id ++ (num c.base ++ (patchB c.p ++ r))) r3 r4 r4
    obtain ⟨p4, q4⟩ := rdAb_num (n := c.id) (most := 1073741823) (num c.base ++ (patchB c.p ++ r)) i1 (by omega) i2
    obtain ⟨p5, q5⟩ := rdAb_num (n := c.base) (most := 1099511627776) (patchB c.p ++ r) i3 i4 i4
    obtain ⟨p6, q6⟩ := rdPatch_put hcode hp r
    rw [← hA] at p2
    have hB : cmB st = ⟨num c.req ++ (num c.id ++ (num c.base ++ (patchB c.p ++ r))), 0⟩ := by unfold cmB; rw [hA, q2]
    have hC : cmC st = ⟨num c.id ++ (num c.base ++ (patchB c.p ++ r)), 0⟩ := by unfold cmC; rw [hB, q3]
    have hD : cmD st = ⟨num c.base ++ (patchB c.p ++ r), 0⟩ := by unfold cmD; rw [hC, q4]
    have hE : cmE st = ⟨patchB c.p ++ r, 0⟩ := by unfold cmE; rw [hD, q5]
    rw [← hB] at p3
    rw [← hC] at p4
    rw [← hD] at p5
    rw [← hE] at p6 q6
    have hS : rdCmd' st = ⟨r, 0⟩ := by rw [w1, q6]
    refine ⟨?_, hS⟩
    rw [rdCmd_ok (by rw [hS]), w2, p2, p3, p4, p5, p6]
    obtain ⟨kind, e, dev, req, id, base, keep, p, f, mask⟩ := c
    simp only at k a1 a2 a3 a4 a5 a6 a7 a8 a9
    subst k a5 a6 a8 a9
    rfl
  · rw [Cmd.ok_3 k] at h
    obtain ⟨h0, h⟩ := Bool.and_eq_true_iff.1 h
    obtain ⟨r1, r2, r3, r4⟩ := Cmd.rq_iff.1 h0
    unfold Cmd.okSub at h
    obtain ⟨h1, h2⟩ := Bool.and_eq_true_iff.1 h
    obtain ⟨⟨a1, a2, a3, a4, a5⟩, a6, a7, a8, a9⟩ := Cmd.bare_iff.1 h1
    obtain ⟨i1, i2⟩ : check c.f = 0 ∧ c.mask < 512 := by simpa using h2
    obtain ⟨w1, w2⟩ := cm_3 (st := st) (by rw [hK, k])
    rw [cmdT_3 k] at hA
    simp only [List.append_assoc] at hA
    obtain ⟨p2, q2⟩ := rdN_num (n := c.dev) (most := 5) (num c.req ++ (putB c.f ++ (num c.mask ++ r))) r1 (by omega) r2
    obtain ⟨p3, q3⟩ := rdAb_num (n := c.req) (most := 1099511627776) (putB c.f ++ (num c.mask ++ r)) r3 r4 r4
    obtain ⟨p4, q4⟩ := rdPred_put i1 (num c.mask ++ r)
    obtain ⟨p5, q5⟩ := rdN_num (n := (c.mask : Int)) (most := 511) r (by omega) (by omega) (by omega)
    rw [← hA] at p2
    have hB : cmB st = ⟨num c.req ++ (putB c.f ++ (num c.mask ++ r)), 0⟩ := by unfold cmB; rw [hA, q2]
    have hC : cmC st = ⟨putB c.f ++ (num c.mask ++ r), 0⟩ := by unfold cmC; rw [hB, q3]
    have hF : cmF st = ⟨num c.mask ++ r, 0⟩ := by unfold cmF; rw [hC, q4]
    rw [← hB] at p3
    rw [← hC] at p4
    rw [← hF] at p5 q5
    have hS : rdCmd' st = ⟨r, 0⟩ := by rw [w1, q5]
    refine ⟨?_, hS⟩
    rw [rdCmd_ok (by rw [hS]), w2, p2, p3, p4, p5, Int.toNat_natCast]
    obtain ⟨kind, e, dev, req, id, base, keep, p, f, mask⟩ := c
    simp only at k a1 a2 a3 a4 a5 a6 a7 a8 a9
    subst k a3 a4 a5 a6 a7
    rfl
  · rw [Cmd.ok_4 k] at h
    obtain ⟨h0, h⟩ := Bool.and_eq_true_iff.1 h
    obtain ⟨r1, r2, r3, r4⟩ := Cmd.rq_iff.1 h0
    unfold Cmd.okLeave at h
    obtain ⟨⟨a1, a2, a3, a4, a5⟩, a6, a7, a8, a9⟩ := Cmd.bare_iff.1 h
    obtain ⟨w1, w2⟩ := cm_4 (st := st) (.inr (by rw [hK, k]))
    rw [cmdT_4 k] at hA
    simp only [List.append_assoc] at hA
    obtain ⟨p2, q2⟩ := rdN_num (n := c.dev) (most := 5) (num c.req ++ r) r1 (by omega) r2
    obtain ⟨p3, q3⟩ := rdAb_num (n := c.req) (most := 1099511627776) r r3 r4 r4
    rw [← hA] at p2
    have hB : cmB st = ⟨num c.req ++ r, 0⟩ := by unfold cmB; rw [hA, q2]
    have hC : cmC st = ⟨r, 0⟩ := by unfold cmC; rw [hB, q3]
    rw [← hB] at p3
    have hS : rdCmd' st = ⟨r, 0⟩ := by rw [w1, hC]
    refine ⟨?_, hS⟩
    rw [rdCmd_ok (by rw [hS]), w2, p2, p3, hK]
    obtain ⟨kind, e, dev, req, id, base, keep, p, f, mask⟩ := c
    simp only at k a1 a2 a3 a4 a5 a6 a7 a8 a9
    subst k a3 a4 a5 a6 a7 a8 a9
    rfl
  · rw [Cmd.ok_5 k] at h
    unfold Cmd.okTrim at h
    obtain ⟨h1, h2⟩ := Bool.and_eq_true_iff.1 h
    obtain ⟨⟨a1, a2, a3, a4, a5⟩, a6, a7, a8, a9⟩ := Cmd.bare_iff.1 h1
    obtain ⟨i1, i2⟩ : 0 ≤ c.keep ∧ c.keep ≤ 1099511627776 := by simpa using h2
    obtain ⟨w1, w2⟩ := cm_5 (st := st) (by rw [hK, k])
    rw [cmdT_5 k] at hA
    obtain ⟨p2, q2⟩ := rdN_num (n := c.keep) (most := 1099511627776) r i1 i2 i2
    have hS : rdCmd' st = ⟨r, 0⟩ := by rw [w1, hA, q2]
    refine ⟨?_, hS⟩
    rw [rdCmd_ok (by rw [hS]), w2, hA, p2]
    obtain ⟨kind, e, dev, req, id, base, keep, p, f, mask⟩ := c
    simp only at k a1 a2 a3 a4 a5 a6 a7 a8 a9
    subst k a1 a2 a3 a4 a6 a7 a8 a9
    rfl
/-- What was taken for a command is its bytes, and it may be. -/
theorem rdCmd_took {st : Rd} (h : (rdCmd' st).e = 0) : st.e = 0 ∧ (rdCmd st).ok = true ∧ st.s = cmdB (rdCmd st) ++ (rdCmd' st).s := by
  have hr := rdCmd_ok h
  rw [hr]
  have bz : cmdz.bare = true := by decide
  have hcs := cmK_cases st
  rcases hcs with k | k | k | k | k | k
  · have h0 := cmK_zero k
    rw [(cm_0 k).1] at h
    exact absurd h h0
  · obtain ⟨w1, w2⟩ := cm_1 k
    rw [w1] at h ⊢
    obtain ⟨e1, c1, s1⟩ := rdEdit_took h
    obtain ⟨e0, s0, l0, m0⟩ := rdAb_took (st := st) (most := 5) e1
    have hok : ({ cmdz with kind := 1, e := rdEdit (cmA st) } : Cmd).ok = true := by
      rw [Cmd.ok_1 rfl]; unfold Cmd.okEdit; exact Bool.and_eq_true_iff.2 ⟨bz, decide_eq_true c1⟩
    rw [w2]
    refine ⟨e0, hok, ?_⟩
    rw [cmdB_ok hok, cmdT_1 rfl, s0]
    show num (cmK st) ++ (cmA st).s = _
    rw [k, s1]; simp
  · obtain ⟨w1, w2⟩ := cm_2 k
    rw [w1] at h ⊢
    obtain ⟨e5, c5, s5⟩ := rdPatch_took h
    obtain ⟨e4, s4, l4, m4⟩ := rdAb_took (st := cmD st) (most := 1099511627776) e5
    obtain ⟨e3, s3, l3, m3⟩ := rdAb_took (st := cmC st) (most := 1073741823) e4
    obtain ⟨e2, s2, l2, m2⟩ := rdAb_took (st := cmB st) (most := 1099511627776) e3
    obtain ⟨e1, s1, l1, m1⟩ := rdN_took2 (st := cmA st) (most := 5) e2
    obtain ⟨e0, s0, l0, m0⟩ := rdAb_took (st := st) (most := 5) e1
    have hok : ({ cmdz with kind := 2, dev := rdN (cmA st) 5, req := rdN (cmB st) 1099511627776, id := rdN (cmC st) 1073741823, base := rdN (cmD st) 1099511627776, p := rdPatch (cmE st) } : Cmd).ok = true := by
      rw [Cmd.ok_2 rfl]
      refine Bool.and_eq_true_iff.2 ⟨Cmd.rq_iff.2 ⟨l1, m1, l2, m2⟩, ?_⟩
      unfold Cmd.okPut
      exact Bool.and_eq_true_iff.2 ⟨bz, Bool.and_eq_true_iff.2 ⟨decide_eq_true ⟨l3, m3, l4, m4⟩, decide_eq_true c5⟩⟩
    rw [w2]
    refine ⟨e0, hok, ?_⟩
    rw [cmdB_ok hok, cmdT_2 rfl, s0]
    show num (cmK st) ++ (cmA st).s = _
    rw [k, s1]
    show _ ++ (_ ++ (cmB st).s) = _
    rw [s2]
    show _ ++ (_ ++ (_ ++ (cmC st).s)) = _
    rw [s3]
    show _ ++ (_ ++ (_ ++ (_ ++ (cmD st).s))) = _
    rw [s4]
    show _ ++ (_ ++ (_ ++ (_ ++ (_ ++ (cmE st).s)))) = _
    rw [s5]; simp
  · obtain ⟨w1, w2⟩ := cm_3 k
    rw [w1] at h ⊢
    obtain ⟨e4, s4, l4, m4⟩ := rdN_took2 (st := cmF st) (most := 511) h
    obtain ⟨c3, s3⟩ := rdPred_took (st := cmC st) e4
    have e3 : (cmC st).e = 0 := by
      rcases Classical.em ((cmC st).e = 0) with hc | hc
      · exact hc
      · exfalso
        have : cmF st = cmC st := (rdPred_err hc).2
        rw [this] at e4
        exact hc e4
    obtain ⟨e2, s2, l2, m2⟩ := rdAb_took (st := cmB st) (most := 1099511627776) e3
    obtain ⟨e1, s1, l1, m1⟩ := rdN_took2 (st := cmA st) (most := 5) e2
    obtain ⟨e0, s0, l0, m0⟩ := rdAb_took (st := st) (most := 5) e1
    have hm : ((rdN (cmF st) 511).toNat : Int) = rdN (cmF st) 511 := by omega
    have hok : ({ cmdz with kind := 3, dev := rdN (cmA st) 5, req := rdN (cmB st) 1099511627776, f := rdPred (cmC st), mask := (rdN (cmF st) 511).toNat } : Cmd).ok = true := by
      rw [Cmd.ok_3 rfl]
      refine Bool.and_eq_true_iff.2 ⟨Cmd.rq_iff.2 ⟨l1, m1, l2, m2⟩, ?_⟩
      unfold Cmd.okSub
      exact Bool.and_eq_true_iff.2 ⟨bz, decide_eq_true ⟨c3, by show (rdN (cmF st) 511).toNat < 512; omega⟩⟩
    rw [w2]
    refine ⟨e0, hok, ?_⟩
    rw [cmdB_ok hok, cmdT_3 rfl, s0]
    show num (cmK st) ++ (cmA st).s = _
    rw [k, s1]
    show _ ++ (_ ++ (cmB st).s) = _
    rw [s2]
    show _ ++ (_ ++ (_ ++ (cmC st).s)) = _
    rw [s3]
    show _ ++ (_ ++ (_ ++ (_ ++ (cmF st).s))) = _
    rw [s4]
    simp only [hm]
    simp
  · obtain ⟨w1, w2⟩ := cm_4 (.inr k)
    rw [w1] at h ⊢
    obtain ⟨e2, s2, l2, m2⟩ := rdAb_took (st := cmB st) (most := 1099511627776) h
    obtain ⟨e1, s1, l1, m1⟩ := rdN_took2 (st := cmA st) (most := 5) e2
    obtain ⟨e0, s0, l0, m0⟩ := rdAb_took (st := st) (most := 5) e1
    rw [w2, k]
    have hok : ({ cmdz with kind := 4, dev := rdN (cmA st) 5, req := rdN (cmB st) 1099511627776 } : Cmd).ok = true := by
      rw [Cmd.ok_4 rfl]
      refine Bool.and_eq_true_iff.2 ⟨Cmd.rq_iff.2 ⟨l1, m1, l2, m2⟩, ?_⟩
      unfold Cmd.okLeave
      exact bz
    refine ⟨e0, hok, ?_⟩
    rw [cmdB_ok hok, cmdT_4 rfl, s0]
    show num (cmK st) ++ (cmA st).s = _
    rw [k, s1]
    show _ ++ (_ ++ (cmB st).s) = _
    rw [s2]
    show _ ++ (_ ++ (_ ++ (cmC st).s)) = _
    simp
  · obtain ⟨w1, w2⟩ := cm_5 k
    rw [w1] at h ⊢
    obtain ⟨e1, s1, l1, m1⟩ := rdN_took2 (st := cmA st) (most := 1099511627776) h
    obtain ⟨e0, s0, l0, m0⟩ := rdAb_took (st := st) (most := 5) e1
    have hok : ({ cmdz with kind := 5, keep := rdN (cmA st) 1099511627776 } : Cmd).ok = true := by
      rw [Cmd.ok_5 rfl]; unfold Cmd.okTrim; exact Bool.and_eq_true_iff.2 ⟨bz, decide_eq_true ⟨l1, m1⟩⟩
    rw [w2]
    refine ⟨e0, hok, ?_⟩
    rw [cmdB_ok hok, cmdT_5 rfl, s0]
    show num (cmK st) ++ (cmA st).s = _
    rw [k, s1]; simp
end Go.Proofs.YtjhndilflcigiaaDoor
namespace Go.Proofs.YtjhndilflcigiaaDoor
open Go.RowKit

set_option maxHeartbeats 1000000 in
theorem c_edit_hasG (k : Int) (w : World) (h1 : 0 ≤ k) (h2 : k ≤ 7) : Calls Tryd.prog 94 #[.int .i64 k, .int .i64 1] w (RetV w (.bool (hasG k))) := by
  rcases kind8 h1 h2 with rfl | rfl | rfl | rfl | rfl | rfl | rfl | rfl
  all_goals
    go_enter Tryd.func94, Tryd.ntmps94
    go_wp2
    go_ret
    exact RetV.bool (by decide) (Below.refl _ _)
set_option maxHeartbeats 1000000 in
theorem c_edit_hasI (k : Int) (w : World) (h1 : 0 ≤ k) (h2 : k ≤ 7) : Calls Tryd.prog 94 #[.int .i64 k, .int .i64 2] w (RetV w (.bool (hasI k))) := by
  rcases kind8 h1 h2 with rfl | rfl | rfl | rfl | rfl | rfl | rfl | rfl
  all_goals
    go_enter Tryd.func94, Tryd.ntmps94
    go_wp2
    go_ret
    exact RetV.bool (by decide) (Below.refl _ _)
set_option maxHeartbeats 1000000 in
theorem c_edit_hasP (k : Int) (w : World) (h1 : 0 ≤ k) (h2 : k ≤ 7) : Calls Tryd.prog 94 #[.int .i64 k, .int .i64 4] w (RetV w (.bool (hasP k))) := by
  rcases kind8 h1 h2 with rfl | rfl | rfl | rfl | rfl | rfl | rfl | rfl
  all_goals
    go_enter Tryd.func94, Tryd.ntmps94
    go_wp2
    go_ret
    exact RetV.bool (by decide) (Below.refl _ _)
/-- What is asked for: 1 a group, 2 an ID, 4 a patch. -/
def hasW (k x : Int) : Bool := if x = 1 then hasG k else if x = 2 then hasI k else hasP k
theorem c_edit_has (k x : Int) (w : World) (h1 : 0 ≤ k) (h2 : k ≤ 7) (hx : x = 1 ∨ x = 2 ∨ x = 4) : Calls Tryd.prog 94 #[.int .i64 k, .int .i64 x] w (RetV w (.bool (hasW k x))) := by
  rcases hx with rfl | rfl | rfl
  · exact c_edit_hasG k w h1 h2
  · exact c_edit_hasI k w h1 h2
  · exact c_edit_hasP k w h1 h2
set_option maxHeartbeats 1000000 in
theorem c_ref19_group (k : Int) (w : World) (h1 : 0 ≤ k) (h2 : k ≤ 7) : Calls Tryd.prog 100 #[.int .i64 k] w (RetV w (.bool (hasG k))) := by
  rcases kind8 h1 h2 with rfl | rfl | rfl | rfl | rfl | rfl | rfl | rfl
  all_goals
    go_enter Tryd.func100, Tryd.ntmps100
    go_wp2
    go_ret
    exact RetV.bool (by decide) (Below.refl _ _)
set_option maxHeartbeats 1000000 in
theorem c_ref19_id (k : Int) (w : World) (h1 : 0 ≤ k) (h2 : k ≤ 7) : Calls Tryd.prog 101 #[.int .i64 k] w (RetV w (.bool (hasI k))) := by
  rcases kind8 h1 h2 with rfl | rfl | rfl | rfl | rfl | rfl | rfl | rfl
  all_goals
    go_enter Tryd.func101, Tryd.ntmps101
    go_wp2
    go_ret
    exact RetV.bool (by decide) (Below.refl _ _)
set_option maxHeartbeats 1000000 in
theorem c_ref19_patch (k : Int) (w : World) (h1 : 0 ≤ k) (h2 : k ≤ 7) : Calls Tryd.prog 102 #[.int .i64 k] w (RetV w (.bool (hasP k))) := by
  rcases kind8 h1 h2 with rfl | rfl | rfl | rfl | rfl | rfl | rfl | rfl
  all_goals
    go_enter Tryd.func102, Tryd.ntmps102
    go_wp2
    go_ret
    exact RetV.bool (by decide) (Below.refl _ _)
end Go.Proofs.YtjhndilflcigiaaDoor
namespace Go.Proofs.YtjhndilflcigiaaDoor
open Go.RowKit

section
variable {P : Program} {w : World}
theorem stop_bin {ops : Array Oper} {rest : List Oper} {o : Oper} {a : Act} {Q : Exit → Act → World → Prop} (op : BinOp) (ty : TypeId) (x y : Operand) (ty2 : TypeId) (_ : o.op = .binOp op ty x y ty2) (h : Stop (wpList P ops Q (o :: rest) a w)) : wpList P ops Q (o :: rest) a w := h
theorem wpList_neqS {ops : Array Oper} {rest : List Oper} {o : Oper} {a : Act} {Q : Exit → Act → World → Prop} (hw : Region.wanted o (yielded ops a.tmps) = true) (ty : TypeId) (x y : Operand) (ty2 : TypeId) (ho : o.op = .binOp .neq ty x y ty2)
    (xs ys : Array Value) (hx : a.eval x = .agg xs) (hy : a.eval y = .agg ys) (hg : P.eqGuardType P.depth ty = false) (b : Bool) (he : (Op.equalIn 10000 ty (.agg xs) (.agg ys)).run P w = .ok b w)
    (h : wpList P ops Q rest (a.put o.dst (.bool (!b))) w) : wpList P ops Q (o :: rest) a w := by
  refine wpList_g hw fun K hK => ?_
  unfold Oper.wp execOp
  simp only [ho, hx, hy, Sem.run_bind, Sem.run_pure, Result.andThen_ok, run_eqGuard_agg w _ _ _ _ _ _ hg, run_neq_struct, he]
  exact hK _ _ h
theorem wpList_eqlS {ops : Array Oper} {rest : List Oper} {o : Oper} {a : Act} {Q : Exit → Act → World → Prop} (hw : Region.wanted o (yielded ops a.tmps) = true) (ty : TypeId) (x y : Operand) (ty2 : TypeId) (ho : o.op = .binOp .eql ty x y ty2)
    (xs ys : Array Value) (hx : a.eval x = .agg xs) (hy : a.eval y = .agg ys) (hg : P.eqGuardType P.depth ty = false) (b : Bool) (he : (Op.equalIn 10000 ty (.agg xs) (.agg ys)).run P w = .ok b w)
    (h : wpList P ops Q rest (a.put o.dst (.bool b)) w) : wpList P ops Q (o :: rest) a w := by
  refine wpList_g hw fun K hK => ?_
  unfold Oper.wp execOp
  simp only [ho, hx, hy, Sem.run_bind, Sem.run_pure, Result.andThen_ok, run_eqGuard_agg w _ _ _ _ _ _ hg, run_eql_struct, he]
  exact hK _ _ h
end
theorem gP : Tryd.prog.eqGuardType Tryd.prog.depth 27 = false := by kernel_rfl
theorem gE : Tryd.prog.eqGuardType Tryd.prog.depth 29 = false := by kernel_rfl
end Go.Proofs.YtjhndilflcigiaaDoor
namespace Go.Proofs.YtjhndilflcigiaaDoor
open Go.RowKit

/-- A world behind the making of one block, in which that block is as it was made. -/
def At (w w' : World) (cs : Array Value) : Prop := Below w.heap.size w w' ∧ Blk w' w.heap.size cs
theorem At.new (w : World) (t : TypeId) (cs : Array Value) : At w (w.alloc (.cells cs t)) cs := ⟨(Below.refl _ _).alloc (Nat.le_refl _) _, Blk.new _ _ _⟩
theorem At.step {w w1 w2 : World} {cs : Array Value} (h : At w w1 cs) (hb : Below w1.heap.size w1 w2) : At w w2 cs := ⟨h.1.trans (hb.mono h.1.size), h.2.below hb h.2.lt⟩
theorem At.alloc {w w1 : World} {cs : Array Value} (h : At w w1 cs) (o : Obj) : At w (w1.alloc o) cs := h.step ((Below.refl _ _).alloc (Nat.le_refl _) o)
end Go.Proofs.YtjhndilflcigiaaDoor
