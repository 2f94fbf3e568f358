/-
  The walk of the reference's Patch: a patch taken off bytes. (Printed by gen08l.py.)
-/
import Derived.Test.YtjhndilflcigiaaDoorQc20
import Derived.Test.YtjhndilflcigiaaDoorRows
import Derived.WalkKit
import Derived.WalkSpells
import Derived.WalkLawsBesides
import Derived.Lib.Hide
import Derived.Deep.QuietTactic
import Derived.BigQuiet
import Derived.Maps.AppendAt
import Derived.WalkSmall
import Derived.ProofKit
import Derived.OpenShut
import Derived.JoinedCond
import Derived.Deep.Slices
import Derived.Deep.Fields
import Derived.Carry
import Derived.Deep.AppendSrc
import Derived.Lib.AppendStr
import Derived.Laws.BytesArg
import Derived.Test.YtjhndilflcigiaaDoorProg
import Derived.Shelf.Spec.TrailingZeros
import Derived.RangeFuncNested
import Derived.RangeFuncBound
import Derived.RangeFuncCalls
import Derived.RangeFuncLeaves
import Derived.Shelf.Abstract
import Derived.Shelf.RegionOpen
import Derived.OwnWalkIn
import Derived.TacticsInMore
import Derived.LoopNIn
import Derived.LoopIn
import Derived.Test.YtjhndilflcigiaaDoorTie
import Derived.Lib.LaidTab
import Derived.LaidMore
import Derived.SevenTiedAt
import Derived.Test.YtjhndilflcigiaaDoorCards
import Derived.Laws.Tables
import Derived.Laws.Rows
import Derived.ChangeKeysEq
import Derived.Laws.StructEq
import Derived.Deep.CutBlock
import Derived.Deep.DeepCutAuto
import Derived.Laws.CopyOwn
import Derived.Outline
import Derived.IntWalk
import Derived.Lib.EndianBits
import Derived.StillTail
import Derived.Lib.AppendZeros
import Derived.Deep.Quiet
import Derived.Maps.Own
import Derived.WalkMore
namespace Go.Proofs.YtjhndilflcigiaaDoor
open Go.RowKit

/-- What stands when the fields below k have been read. -/
structure PatAt (w : World) (h : Nat) (S : Rd) (F : List Val) (m L : Nat) (k : Nat) (st : Rd) (f : List Val) (wr : World) : Prop where
  len : f.length = 8
  eS : rdFs' true (bitsFrom m k) st = S
  eF : rdFv true (bitsFrom m k) st f = F
  rd : RdR wr h st
  R : ∃ z, z.size = 26 ∧ Blk wr w.heap.size z
  C : Blk wr (w.heap.size + 1) (Patch.arr ⟨m, L, f⟩)
  kept : Kept (some h) w.heap.size w wr
section
variable {w wr w' : World} {h : Nat} {S : Rd} {F : List Val} {m L k : Nat} {st : Rd} {f : List Val}
theorem PatAt.no (I : PatAt w h S F m L k st f wr) (hk : k < 8) (hb : m.testBit k = false) (hw : Below wr.heap.size wr w') : PatAt w h S F m L (k + 1) st f w' := by
  have e := bitsFrom_no hk hb
  obtain ⟨z, hz, hR⟩ := I.R
  exact ⟨I.len, by rw [← e]; exact I.eS, by rw [← e]; exact I.eF, I.rd.below hw, ⟨z, hz, hR.below hw hR.lt⟩, I.C.below hw I.C.lt, I.kept.then_below hw I.kept.size⟩
theorem PatAt.one (I : PatAt w h S F m L k st f wr) (hh : h < w.heap.size) (hk : k < 8) (hb : m.testBit k = true) {w1 w2 : World} (k0 : Below wr.heap.size wr w1) (k1 : Kept (some h) w1.heap.size w1 w2) (k2 : Kept (some (w.heap.size + 1)) w2.heap.size w2 w')
    (hr : RdR w' h (rdVal' st)) (hC : Blk w' (w.heap.size + 1) (Patch.arr ⟨m, L, f.set k (rdVal st)⟩)) : PatAt w h S F m L (k + 1) (rdVal' st) (f.set k (rdVal st)) w' := by
  have e := bitsFrom_yes hk hb
  obtain ⟨z, hz, hR⟩ := I.R
  have hS := I.eS
  have hF := I.eF
  rw [e, rdFs', fldS_true] at hS
  rw [e, rdFv, fldS_true] at hF
  have z0 := k0.size
  have z1 := k1.size
  have zw := I.kept.size
  have zl := hR.lt
  have b1 := hR.below k0 hR.lt
  have b2 := b1.kept k1 b1.lt (by simp; omega)
  refine ⟨by rw [List.length_set]; exact I.len, hS, hF, hr, ⟨z, hz, b2.kept k2 b2.lt (by simp)⟩, hC, ?_⟩
  exact ((I.kept.then_below k0 zw).trans (k1.mono (by omega))).trans (k2.one (by omega) (.inl (by omega)))
end
end Go.Proofs.YtjhndilflcigiaaDoor
