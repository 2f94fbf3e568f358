/-
  Readers: how the program's and the reference's readers lie in memory; worlds in which one reader alone has turned. No program is looked at here.
-/
import Derived.Test.YtjhndilflcigiaaDoorQa2
import Derived.Test.YtjhndilflcigiaaDoorRows
import Derived.WalkKit
import Derived.WalkSpells
import Derived.WalkLawsBesides
import Derived.Lib.Hide
import Derived.Deep.QuietTactic
import Derived.BigQuiet
import Derived.Maps.AppendAt
import Derived.WalkSmall
import Derived.ProofKit
import Derived.OpenShut
import Derived.JoinedCond
import Derived.Deep.Slices
import Derived.Deep.Fields
import Derived.Carry
import Derived.Deep.AppendSrc
import Derived.Lib.AppendStr
import Derived.Laws.BytesArg
import Derived.Test.YtjhndilflcigiaaDoorProg
import Derived.Shelf.Spec.TrailingZeros
import Derived.RangeFuncNested
import Derived.RangeFuncBound
import Derived.RangeFuncCalls
import Derived.RangeFuncLeaves
import Derived.Shelf.Abstract
import Derived.Shelf.RegionOpen
import Derived.OwnWalkIn
import Derived.TacticsInMore
import Derived.LoopNIn
import Derived.LoopIn
import Derived.Test.YtjhndilflcigiaaDoorTie
import Derived.Lib.LaidTab
import Derived.LaidMore
import Derived.SevenTiedAt
import Derived.Test.YtjhndilflcigiaaDoorCards
import Derived.Laws.Tables
import Derived.Laws.Rows
import Derived.ChangeKeysEq
import Derived.Laws.StructEq
import Derived.Deep.CutBlock
import Derived.Deep.DeepCutAuto
import Derived.Laws.CopyOwn
import Derived.Outline
import Derived.IntWalk
import Derived.Lib.EndianBits
import Derived.StillTail
import Derived.Lib.AppendZeros
import Derived.Deep.Quiet
namespace Go.Proofs.YtjhndilflcigiaaDoor
open Go.RowKit

/-! Worlds in which, below a block number, one block alone may have turned. -/
structure Kept (p : Option Nat) (B : Nat) (w w' : World) : Prop where
  os : w'.os = w.os
  tape : w'.tape = w.tape
  output : w'.output = w.output
  size : w.heap.size ≤ w'.heap.size
  block : ∀ k, k < B → p ≠ some k → w'.heap[k]? = w.heap[k]?
section
variable {p : Option Nat} {B B' : Nat} {a b c w w' : World}
theorem Kept.refl (p : Option Nat) (B : Nat) (w : World) : Kept p B w w := ⟨rfl, rfl, rfl, Nat.le_refl _, fun _ _ _ => rfl⟩
theorem Kept.of_below (h : Below B w w') : Kept p B w w' := ⟨h.os, h.tape, h.output, h.size, fun k hk _ => h.block k hk⟩
theorem Kept.trans (h : Kept p B a b) (k : Kept p B b c) : Kept p B a c := ⟨k.os.trans h.os, k.tape.trans h.tape, k.output.trans h.output, Nat.le_trans h.size k.size, fun i hi hp => (k.block i hi hp).trans (h.block i hi hp)⟩
theorem Kept.mono (h : Kept p B w w') (hB : B' ≤ B) : Kept p B' w w' := ⟨h.os, h.tape, h.output, h.size, fun k hk hp => h.block k (by omega) hp⟩
theorem Kept.below (h : Kept p B w w') (hB : B' ≤ B) (hp : ∀ g, p = some g → B' ≤ g) : Below B' w w' := ⟨h.os, h.tape, h.output, h.size, fun k hk => h.block k (by omega) (fun e => by have := hp k e; omega)⟩
theorem Kept.alloc (h : Kept p B a w) (hB : B ≤ w.heap.size) (o : Obj) : Kept p B a (w.alloc o) := h.trans (.of_below ((Below.refl _ _).alloc hB o))
theorem Kept.drew (h : Kept p B a w) : Kept p B a w.drew := ⟨h.os, h.tape, h.output, h.size, h.block⟩
theorem Kept.setCell (h : Kept p B a w) {q : Addr} (hq : B ≤ q.block ∨ p = some q.block) (u : Value) : Kept p B a (w.setCell q u) :=
  h.trans ⟨rfl, rfl, rfl, by simp [World.setCell], fun k hk hp => Below.heap_setCell _ _ _ _ (fun e => by
    subst e
    rcases hq with h | h
    · omega
    · exact hp h)⟩
theorem Kept.then_below (h : Kept p B a w) (k : Below w.heap.size w w') (hB : B ≤ w.heap.size) : Kept p B a w' := h.trans (.of_below (k.mono hB))
theorem Kept.then_kept (h : Kept p B a w) (k : Kept p w.heap.size w w') (hB : B ≤ w.heap.size) : Kept p B a w' := h.trans (k.mono hB)
theorem Kept.cell (h : Kept p B w w') {q : Addr} (hq : q.block < B) (hp : p ≠ some q.block) : w'.cell? q = w.cell? q := World.cell?_of_block (w := w) (h.block q.block hq hp)
theorem own_kept {base : Nat} {e : TypeId} {size n : Nat} {v : Value} {xs : List Value} (h : w.ownsRow base e size v n xs) (k : Kept p w.heap.size w w') (hp : ∀ g, p = some g → g < base) : w'.ownsRow base e size v n xs := by
  obtain ⟨h1, h2⟩ := h
  refine ⟨h1, ?_⟩
  rcases h2 with h2 | ⟨g, cap, cur, hv, hg, hh, r⟩
  · exact .inl h2
  · exact .inr ⟨g, cap, cur, hv, hg, by rw [k.block g (by
      rcases Nat.lt_or_ge g w.heap.size with hlt | hge
      · exact hlt
      · rw [Array.getElem?_eq_none hge] at hh; cases hh) (fun e => by have := hp g e; omega)]; exact hh, r⟩
end

/-! A block that is known whole. -/
def Blk (w : World) (g : Nat) (cs : Array Value) : Prop := ∃ t, w.heap[g]? = some (.cells cs t (0, 0))
section
variable {w w' : World} {g : Nat} {cs : Array Value}
theorem Blk.lt (h : Blk w g cs) : g < w.heap.size := by
  obtain ⟨t, h⟩ := h
  rcases Nat.lt_or_ge g w.heap.size with hlt | hge
  · exact hlt
  · rw [Array.getElem?_eq_none hge] at h; cases h
theorem Blk.cell (h : Blk w g cs) {i : Nat} {v : Value} (hv : cs[i]? = some v) : w.cell? ⟨g, i, none⟩ = some v := by
  obtain ⟨t, h⟩ := h
  simp [World.cell?, h, hv]
theorem Blk.frozen (h : Blk w g cs) (i : Nat) : w.frozen? ⟨g, i, none⟩ = false := by
  obtain ⟨t, h⟩ := h
  simp [World.frozen?, h]
theorem Blk.new (w : World) (t : TypeId) (cs : Array Value) : Blk (w.alloc (.cells cs t)) w.heap.size cs := ⟨t, heap_alloc_new w _⟩
theorem Blk.kept {p : Option Nat} {B : Nat} (h : Blk w g cs) (k : Kept p B w w') (hg : g < B) (hp : p ≠ some g) : Blk w' g cs := by
  obtain ⟨t, h⟩ := h
  exact ⟨t, (k.block g hg hp).trans h⟩
theorem Blk.below {B : Nat} (h : Blk w g cs) (k : Below B w w') (hg : g < B) : Blk w' g cs := by
  obtain ⟨t, h⟩ := h
  exact ⟨t, (k.block g hg).trans h⟩
theorem Blk.store (h : Blk w g cs) (i : Nat) (u : Value) : Blk (w.setCell ⟨g, i, none⟩ u) g (cs.setIfInBounds i u) := by
  obtain ⟨t, h⟩ := h
  exact ⟨t, by simp [World.setCell, Array.getElem?_modify, h]⟩
end

/-! The readers in memory. -/
/-- The program's reader at block g: the bytes B, the place, the error. -/
def RdA (w : World) (g : Nat) (A : Option Addr) (c : Nat) (B : List UInt8) (pos : Nat) (e : Int) : Prop :=
  Blk w g #[.slice A B.length c, .int .i64 pos, .int .i64 e] ∧ pos ≤ B.length ∧ B.length ≤ c ∧ c ≤ 9223372036854775807 ∧ B.length ≤ 4294967296 ∧ (B = [] ∨ ∃ b off, A = some ⟨b, off, none⟩ ∧ b < g ∧ Row 1 bc w b off B)
/-- The program's reader; none: the nil one. -/
def RdP (w : World) (p : Option Nat) (st : Rd) : Prop :=
  (p = none ∧ st = ⟨[], 1⟩) ∨ ∃ g A c B pos, p = some g ∧ RdA w g A c B pos st.e ∧ st.s = B.drop pos
/-- The reference's reader at block h. -/
def RdR (w : World) (h : Nat) (st : Rd) : Prop := Blk w h #[.string (str st.s), .int .i64 st.e] ∧ st.s.length ≤ 4294967296
def ptr (p : Option Nat) : Value := .pointer (p.map fun g => ⟨g, 0, none⟩)
section
variable {w w' : World} {g h : Nat} {A : Option Addr} {c pos : Nat} {B : List UInt8} {e : Int} {p q : Option Nat} {st st' : Rd}
theorem RdA.kept (r : RdA w g A c B pos e) (k : Kept q w.heap.size w w') (hq : ∀ h, q = some h → g < h) : RdA w' g A c B pos e := by
  obtain ⟨h1, h2, h3, h4, h5, h6⟩ := r
  refine ⟨h1.kept k h1.lt (fun e => by have := hq g e; omega), h2, h3, h4, h5, h6.imp id fun ⟨b, off, hA, hb, hr⟩ => ⟨b, off, hA, hb, ?_⟩⟩
  have := h1.lt
  exact hr.keep fun o => k.cell (by show b < _; omega) (fun e => by have := hq b e; omega)
theorem RdA.store2 (r : RdA w g A c B pos e) (e' : Int) : RdA (w.setCell ⟨g, 2, none⟩ (.int .i64 e')) g A c B pos e' := by
  obtain ⟨h1, h2, h3, h4, h5, h6⟩ := r
  refine ⟨by simpa using h1.store 2 (.int .i64 e'), h2, h3, h4, h5, h6.imp id fun ⟨b, off, hA, hb, hr⟩ => ⟨b, off, hA, hb, ?_⟩⟩
  exact hr.keep fun o => World.cell?_setCell_other _ _ _ _ (fun e => by injection e; omega)
theorem RdP.kept (r : RdP w p st) (k : Kept q w.heap.size w w') (hq : ∀ g h, p = some g → q = some h → g < h) : RdP w' p st :=
  r.imp id fun ⟨g, A, c, B, pos, hp, ha, hs⟩ => ⟨g, A, c, B, pos, hp, ha.kept k (fun h => hq g h hp), hs⟩
theorem RdP.below (r : RdP w p st) (k : Below w.heap.size w w') : RdP w' p st := r.kept (q := none) (.of_below k) (fun _ _ _ h => by cases h)
theorem RdP.lt (r : RdP w p st) (hg : p = some g) : g < w.heap.size := by
  rcases r with ⟨rfl, _⟩ | ⟨g', A, c, B, pos, hp, ha, _⟩
  · cases hg
  · rw [hp] at hg; injection hg with hg; subst hg; exact ha.1.lt
theorem RdR.kept (r : RdR w h st) (k : Kept q w.heap.size w w') (hq : q ≠ some h) : RdR w' h st := ⟨r.1.kept k r.1.lt hq, r.2⟩
theorem RdR.below (r : RdR w h st) (k : Below w.heap.size w w') : RdR w' h st := r.kept (q := none) (.of_below k) (by simp)
theorem RdR.lt (r : RdR w h st) : h < w.heap.size := r.1.lt
theorem RdP.len (r : RdP w p st) : st.s.length ≤ 4294967296 := by
  rcases r with ⟨rfl, rfl⟩ | ⟨g, A, c, B, pos, hp, ha, hs⟩
  · simp
  · rw [hs]; have := ha.2.2.2.2.1; simp; omega
end

/-! The ends of the readers' calls. -/
/-- The call hands back v, the program's reader is then st'; nothing else below the heap's end has turned. -/
def RetP (p : Option Nat) (st' : Rd) (w : World) (v : Value) (e : Ending) (w' : World) : Prop := e = .returned v ∧ RdP w' p st' ∧ Kept p w.heap.size w w'
end Go.Proofs.YtjhndilflcigiaaDoor
