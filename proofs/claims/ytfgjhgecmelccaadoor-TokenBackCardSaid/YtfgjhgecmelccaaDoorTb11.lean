/-
  Lemmas (walks and plain laws), in one text.
-/
import Derived.Test.YtfgjhgecmelccaaDoorTb10
import Derived.Test.YtfgjhgecmelccaaDoorRows
import Derived.WalkKit
import Derived.WalkSpells
import Derived.WalkLawsBesides
import Derived.Lib.Hide
import Derived.Deep.QuietTactic
import Derived.BigQuiet
import Derived.Maps.AppendAt
import Derived.WalkSmall
import Derived.ProofKit
import Derived.OpenShut
import Derived.JoinedCond
import Derived.Deep.Slices
import Derived.Deep.Fields
import Derived.Carry
import Derived.HandedShaped
import Derived.Shelf.Strings.Builder1
import Derived.Shelf.Strings.Builder2
import Derived.Shelf.Strings.OnBuilder
import Derived.Shelf.Small.Wraps
import Derived.Shelf.Utf8.RuneCount
import Derived.Shelf.Strconv.Itoa0
import Derived.Shelf.Strconv.Itoa1
import Derived.Shelf.LaysM
import Derived.Shelf.Strconv.Itoa2
import Derived.Shelf.Strconv.Itoa3
import Derived.Shelf.Strings.Search1
import Derived.Shelf.Strings.Search2
import Derived.Shelf.Strings.Search3
import Derived.Shelf.Strings.Count
import Derived.Shelf.Strings.Shaped
import Derived.Shelf.Strings.Split
import Derived.Shelf.Strings.SplitShaped
import Derived.Shelf.Unicode.Decode
import Derived.Shelf.Strings.RuneCount
import Derived.Shelf.Strings.Explode
import Derived.Shelf.Unicode.DecodeSlow
import Derived.Test.YtfgjhgecmelccaaDoorProg
import Derived.Deep.AppendSrc
import Derived.Lib.AppendStr
import Derived.Laws.BytesArg
import Derived.Lib.AppendIntMem
import Derived.Lib.ItoaLen
import Derived.Lib.TrailingZeros
import Derived.Lib.SplitLaws
import Derived.Lib.ItoaNum
import Derived.Shelf.Strings.PiecesUse
import Derived.Shelf.Spec.TrailingZeros
import Derived.RangeFuncNested
import Derived.RangeFuncBound
import Derived.RangeFuncCalls
import Derived.RangeFuncLeaves
import Derived.Shelf.Abstract
import Derived.Shelf.RegionOpen
import Derived.OwnWalkIn
import Derived.TacticsInMore
import Derived.LoopNIn
import Derived.LoopIn
import Derived.Test.YtfgjhgecmelccaaDoorTie
import Derived.Lib.LaidTab
import Derived.LaidMore
import Derived.Lay
import Derived.Stop.LaidErr
import Derived.SevenTiedAt
import Derived.Test.YtfgjhgecmelccaaDoorCards
import Derived.Deep.CutBlock
import Derived.Deep.DeepCutAuto
import Derived.Laws.Tables
import Derived.Laws.Rows
import Derived.Laws.CopyOwn
import Derived.Outline
import Derived.IntWalk
import Derived.Lib.EndianBits
import Derived.StillTail
import Derived.Laws.IdiomStrings
import Derived.ChangeKeysEq
import Derived.Laws.StructEq
namespace Go.Proofs.YtfgjhgecmelccaaDoor
open Go.RowKit

section
variable {P : Program} {w : World}
theorem Str.agg {ty : TypeId} {n : Nat} (S : Str P ty n) (w : World) : (isAgg ty).run P w = .ok true w := by
  obtain ⟨d, h1, h2⟩ := S.desc
  unfold isAgg
  rw [Sem.run_bind, run_underlying h1 w]
  cases d <;> simp_all
theorem Str.sizeOf {ty : TypeId} {n : Nat} (S : Str P ty n) (w : World) : (Go.sizeOf ty).run P w = .ok n w := by
  have h := S.size
  cases hq : P.info? ty with
  | none => rw [hq] at h; cases h
  | some i =>
    rw [hq] at h
    simp at h
    simp [Go.sizeOf, typeInfo, hq, h]
theorem run_loadVar_at (g off : Nat) (cs : Array Value) (ty : TypeId) (hcell : ∀ (j : Nat) u, cs[j]? = some u → w.cell? ⟨g, off + j, none⟩ = some u) {n : Nat} (S : Str P ty n) (hn : cs.size = n) :
    (loadVar ty ⟨g, off, none⟩).run P w = .ok (.agg cs) w := by
  have hl : (loadCells ⟨g, off, none⟩ cs.toList.length).run P w = .ok cs.toList.toArray w :=
    run_loadCells_list (P := P) w ⟨g, off, none⟩ cs.toList (fun j v hv => by
      rw [add_lit']
      exact hcell j v (by simpa using hv))
  simp only [Array.length_toList, Array.toArray_toList, hn] at hl
  simp only [loadVar, Sem.run_bind, S.agg, S.sizeOf, Result.andThen_ok, if_true, hl, Sem.run_pure]
/-- A guarded operation that is wanted. -/
theorem wpList_g {ops : Array Oper} {rest : List Oper} {o : Oper} {a : Act} {Q : Exit → Act → World → Prop} (hw : Region.wanted o (yielded ops a.tmps) = true)
    (h : ∀ K : Act → World → Prop, (∀ a w, wpList P ops Q rest a w → K a w) → o.wp P a w K Q) : wpList P ops Q (o :: rest) a w := by
  rw [wpList, if_pos hw]
  exact .inl (h _ fun _ _ h => h)
theorem wpList_loadAtG {ops : Array Oper} {rest : List Oper} {o : Oper} {a : Act} {Q : Exit → Act → World → Prop} (hw : Region.wanted o (yielded ops a.tmps) = true) (ty : TypeId) (x : Operand) (ho : o.op = .load ty x)
    (g off : Nat) (hx : a.eval x = .pointer (some ⟨g, off, none⟩)) (cs : Array Value) (hcell : ∀ (j : Nat) u, cs[j]? = some u → w.cell? ⟨g, off + j, none⟩ = some u) {n : Nat} (S : Str P ty n) (hn : cs.size = n)
    (h : wpList P ops Q rest (a.put o.dst (.agg cs)) w) : wpList P ops Q (o :: rest) a w := by
  refine wpList_g hw fun K hK => ?_
  unfold Oper.wp execOp
  simp only [ho, hx, Instr.loadAt, Instr.sureAddr, Sem.run_bind, Sem.run_pure, Result.andThen_ok, run_loadVar_at g off cs ty hcell S hn]
  exact hK _ _ h
theorem stop_loadG {ops : Array Oper} {rest : List Oper} {o : Oper} {a : Act} {Q : Exit → Act → World → Prop} (ty : TypeId) (x : Operand) (_ : o.op = .load ty x) (h : Stop (wpList P ops Q (o :: rest) a w)) : wpList P ops Q (o :: rest) a w := h
theorem Blk.all {g : Nat} {cs : Array Value} (h : Blk w g cs) (j : Nat) (u : Value) (hu : cs[j]? = some u) : w.cell? ⟨g, 0 + j, none⟩ = some u := by rw [Nat.zero_add]; exact h.cell hu
end
/-! Equality. -/
def eqF (d : Nat) (xs ys : Array Value) : List (Bool × TypeId × Nat) → Sem Bool
  | [] => pure true
  | (b, t, off) :: r => if b = false then do
      let a ← part t xs off
      let c ← part t ys off
      let q ← Op.equalIn d t a c
      if (!q) = true then pure false else eqF d xs ys r
    else eqF d xs ys r
theorem eqFields_eqF (d : Nat) (xs ys : Array Value) : ∀ fs : List Field, Op.eqFields d xs ys fs = eqF d xs ys (fs.map fun f => (f.name == "_", f.type, f.offset))
  | [] => rfl
  | f :: fs => by
    rw [List.map_cons, eqF, Op.eqFields, eqFields_eqF d xs ys fs]
    by_cases h : f.name = "_"
    · simp [h]
    · have h' : (f.name == "_") = false := by simpa using h
      simp [h, h']
section
variable {P : Program} {w : World}
theorem eqF_nil (d : Nat) (xs ys : Array Value) : (eqF d xs ys []).run P w = .ok true w := by simp [eqF]
theorem eqF_cons (d : Nat) (xs ys : Array Value) (t : TypeId) (off : Nat) (r : List (Bool × TypeId × Nat)) {a b : Value} {p q : Bool} (ha : (part t xs off).run P w = .ok a w) (hb : (part t ys off).run P w = .ok b w)
    (he : (Op.equalIn d t a b).run P w = .ok p w) (hr : (eqF d xs ys r).run P w = .ok q w) : (eqF d xs ys ((false, t, off) :: r)).run P w = .ok (p && q) w := by
  simp only [eqF, if_true, Sem.run_bind, ha, hb, he, Result.andThen_ok, Sem.run_ite, hr, Sem.run_pure]
  cases p <;> simp
theorem eqS (d : Nat) {t : TypeId} (xs ys : Array Value) (l : List (Bool × TypeId × Nat)) (ht : P.underlying t = some (.struct (P.fieldsOf t))) (hp : P.stoodInHeld t = false) (hl : (P.fieldsOf t).toList.map (fun f => (f.name == "_", f.type, f.offset)) = l)
    {q : Bool} (h : (eqF d xs ys l).run P w = .ok q w) : (Op.equalIn (d + 1) t (.agg xs) (.agg ys)).run P w = .ok q w := by
  rw [run_equalIn_struct w d t xs ys ht hp, eqFields_eqF, hl, h]
end
theorem plain3 : Tryd.prog.plainKey 3 = true := by kernel_rfl
abbrev Val.c3 (x : Val) : Array Value := #[.int .i64 x.kind, .int .i64 x.n, .string (str x.s)]
end Go.Proofs.YtfgjhgecmelccaaDoor
namespace Go.Proofs.YtfgjhgecmelccaaDoor
open Go.RowKit

def vals (f : List Val) : Bool := f.all Val.ok
def Card.ok (c : Card) : Bool := decide (1 ≤ c.id) && decide (c.id < 1073741824) && decide (1 ≤ c.ver) && decide (c.ver ≤ 1099511627776) && decide (c.lab < 65536) && vals c.f
/-! The program's. -/
end Go.Proofs.YtfgjhgecmelccaaDoor
namespace Go.Proofs.YtfgjhgecmelccaaDoor
open Go.RowKit

def fitAt (m k : Nat) (x : Val) : Bool := x.ok && (decide (x.kind = 0) || m.testBit k)
def fits (m : Nat) (f : List Val) : Bool := (List.range f.length).all fun k => (f[k]?).all (fitAt m k)
def Patch.code (p : Patch) : Int := if p.mask = 0 ∨ 511 < p.mask then 11 else if 65536 ≤ p.lab ∨ (p.lab ≠ 0 ∧ p.mask.testBit 8 = false) then 1 else if fits p.mask p.f then 0 else 1
theorem Patch.code_mask {p : Patch} (h : p.mask = 0 ∨ 511 < p.mask) : p.code = 11 := by unfold Patch.code; rw [if_pos h]
theorem Patch.code_lab {p : Patch} (h1 : p.mask ≠ 0) (h2 : p.mask ≤ 511) (h : 65536 ≤ p.lab ∨ (p.lab ≠ 0 ∧ p.mask.testBit 8 = false)) : p.code = 1 := by unfold Patch.code; rw [if_neg (by omega), if_pos h]
theorem Patch.row {p : Patch} {w : World} {g : Nat} (h : Blk w g p.arr) {k : Nat} (hk : k < p.f.length) : w.cell? ⟨g, 2 + k * 3, none⟩ = some (.int .i64 p.f[k].kind) ∧ w.cell? ⟨g, 2 + k * 3 + 1, none⟩ = some (.int .i64 p.f[k].n) ∧ w.cell? ⟨g, 2 + k * 3 + 2, none⟩ = some (.string (str p.f[k].s)) := by
  obtain ⟨h0, h1, h2⟩ := Patch.arr_val (c := p) hk
  exact ⟨h.cell h0, h.cell h1, h.cell h2⟩
/-! The program's. -/
theorem Patch.part {p : Patch} {w : World} {g : Nat} (h : Blk w g p.arr) (j : Nat) (u : Value) (hu : (farr p.f)[j]? = some u) : w.cell? ⟨g, 2 + j, none⟩ = some u := h.cell (by rw [Patch.arr_tail]; exact hu)
theorem Patch.go (p : Patch) {Q : Prop} (h1 : (p.code = 11 ∧ (p.mask = 0 ∨ 511 < p.mask) ∨ p.code = 1 ∧ p.mask ≠ 0 ∧ p.mask ≤ 511 ∧ (65536 ≤ p.lab ∨ (p.lab ≠ 0 ∧ p.mask.testBit 8 = false))) → Q)
    (h2 : p.mask ≠ 0 → p.mask ≤ 511 → p.lab < 65536 → (p.lab = 0 ∨ p.mask.testBit 8 = true) → Q) : Q := by
  by_cases a : p.mask = 0 ∨ 511 < p.mask
  · exact h1 (.inl ⟨Patch.code_mask a, a⟩)
  · by_cases b : 65536 ≤ p.lab ∨ (p.lab ≠ 0 ∧ p.mask.testBit 8 = false)
    · exact h1 (.inr ⟨Patch.code_lab (by omega) (by omega) b, by omega, by omega, b⟩)
    · refine h2 (by omega) (by omega) (by omega) ?_
      cases h8 : p.mask.testBit 8
      · rw [h8] at b; left; simp at b; omega
      · right; rfl
end Go.Proofs.YtfgjhgecmelccaaDoor
namespace Go.Proofs.YtfgjhgecmelccaaDoor
open Go.RowKit

abbrev vz : Val := ⟨0, 0, []⟩
abbrev f8z : List Val := List.replicate 8 vz
abbrev cz : Card := ⟨0, 0, 0, f8z⟩
abbrev pz : Patch := ⟨0, 0, f8z⟩
def bitsTo (m k : Nat) : List Nat := (List.range k).filter m.testBit
end Go.Proofs.YtfgjhgecmelccaaDoor
namespace Go.Proofs.YtfgjhgecmelccaaDoor
open Go.RowKit

def hasG (k : Int) : Bool := decide (4 ≤ k ∧ k ≤ 7)
def hasI (k : Int) : Bool := decide (k = 2 ∨ k = 3 ∨ k = 6 ∨ k = 7)
def hasP (k : Int) : Bool := decide (k = 1 ∨ k = 2)
def Edit.gOk (e : Edit) : Bool := decide (0 ≤ e.group ∧ e.group < 16) && (hasG e.kind || decide (e.group = 0))
def Edit.iOk (e : Edit) : Bool := if hasI e.kind then decide (1 ≤ e.id ∧ e.id < 1073741824) else decide (e.id = 0)
def Edit.code (e : Edit) : Int := if 1 ≤ e.kind ∧ e.kind ≤ 7 ∧ e.gOk = true ∧ e.iOk = true then (if hasP e.kind then e.p.code else if e.p = pz then 0 else 1) else 1
theorem Edit.part {e : Edit} {w : World} {g : Nat} (h : Blk w g e.arr) (j : Nat) (u : Value) (hu : e.p.arr[j]? = some u) : w.cell? ⟨g, 3 + j, none⟩ = some u := h.cell (by rw [Edit.arr_tail]; exact hu)
end Go.Proofs.YtfgjhgecmelccaaDoor
namespace Go.Proofs.YtfgjhgecmelccaaDoor
open Go.RowKit

section
variable {P : Program} {w : World}
theorem stop_bin {ops : Array Oper} {rest : List Oper} {o : Oper} {a : Act} {Q : Exit → Act → World → Prop} (op : BinOp) (ty : TypeId) (x y : Operand) (ty2 : TypeId) (_ : o.op = .binOp op ty x y ty2) (h : Stop (wpList P ops Q (o :: rest) a w)) : wpList P ops Q (o :: rest) a w := h
theorem wpList_eqlS {ops : Array Oper} {rest : List Oper} {o : Oper} {a : Act} {Q : Exit → Act → World → Prop} (hw : Region.wanted o (yielded ops a.tmps) = true) (ty : TypeId) (x y : Operand) (ty2 : TypeId) (ho : o.op = .binOp .eql ty x y ty2)
    (xs ys : Array Value) (hx : a.eval x = .agg xs) (hy : a.eval y = .agg ys) (hg : P.eqGuardType P.depth ty = false) (b : Bool) (he : (Op.equalIn 10000 ty (.agg xs) (.agg ys)).run P w = .ok b w)
    (h : wpList P ops Q rest (a.put o.dst (.bool b)) w) : wpList P ops Q (o :: rest) a w := by
  refine wpList_g hw fun K hK => ?_
  unfold Oper.wp execOp
  simp only [ho, hx, hy, Sem.run_bind, Sem.run_pure, Result.andThen_ok, run_eqGuard_agg w _ _ _ _ _ _ hg, run_eql_struct, he]
  exact hK _ _ h
end
end Go.Proofs.YtfgjhgecmelccaaDoor
namespace Go.Proofs.YtfgjhgecmelccaaDoor
open Go.RowKit

theorem At.edit {w w1 : World} {e : Edit} (h : At w w1 e.arr) : w1.cell? ⟨w.heap.size, 0, none⟩ = some (.int .i64 e.kind) ∧ w1.cell? ⟨w.heap.size, 1, none⟩ = some (.int .i64 e.id) ∧ w1.cell? ⟨w.heap.size, 2, none⟩ = some (.int .i64 e.group) := by
  obtain ⟨h0, h1, h2⟩ := e.arr_head
  exact ⟨h.2.cell h0, h.2.cell h1, h.2.cell h2⟩
end Go.Proofs.YtfgjhgecmelccaaDoor
namespace Go.Proofs.YtfgjhgecmelccaaDoor
open Go.RowKit

/-- next's end. -/
def RetNx (s : List UInt8) (most : Int) (w : World) (e : Ending) (w' : World) : Prop :=
  e = .returned (.tuple #[.int .i64 (nVal s most), .int .i64 (nLen s most), .int .i64 (nErr s most)]) ∧ w = w'
theorem RetNx.bad {s : List UInt8} {most : Int} {w : World} {e : Int} (h : nErr s most = e) (h0 : e ≠ 0) : RetNx s most w (.returned (.tuple #[.int .i64 0, .int .i64 0, .int .i64 e])) w := by
  refine ⟨?_, rfl⟩
  rw [nVal_bad (by omega), nLen_bad (by omega), h]; rfl

end Go.Proofs.YtfgjhgecmelccaaDoor
namespace Go.Proofs.YtfgjhgecmelccaaDoor
open Go.RowKit

theorem Blk.three {w : World} {g : Nat} {a b c : Value} (h : Blk w g #[a, b, c]) : w.cell? ⟨g, 0, none⟩ = some a ∧ w.cell? ⟨g, 1, none⟩ = some b ∧ w.cell? ⟨g, 2, none⟩ = some c ∧ ∀ i, w.frozen? ⟨g, i, none⟩ = false :=
  ⟨h.cell rfl, h.cell rfl, h.cell rfl, fun i => h.frozen i⟩
theorem RdP.own {w w' : World} {p : Option Nat} {st : Rd} {b : Nat} (r : RdP w p st) (k : Kept (some b) w.heap.size w w') (hb : ∀ g, p = some g → g < b) : RdP w' p st :=
  r.kept k (fun g h hg hh => by injection hh with hh; subst hh; exact hb g hg)
theorem RdP.up {w w' : World} {p : Option Nat} {st : Rd} {B : Nat} (r : RdP w p st) (k : Below B w w') (hb : ∀ g, p = some g → g < B) : RdP w' p st := by
  rcases r with ⟨rfl, hs⟩ | ⟨g, A, c, L, pos, rfl, ⟨h1, h2, h3, h4, h5, h6⟩, hs⟩
  · exact .inl ⟨rfl, hs⟩
  · have hg := hb g rfl
    exact .inr ⟨g, A, c, L, pos, rfl, ⟨h1.below k hg, h2, h3, h4, h5, h6.imp id fun ⟨b, off, hA, hbg, hr⟩ => ⟨b, off, hA, hbg, hr.belowB k (by omega)⟩⟩, hs⟩
theorem RdR.up {w w' : World} {h : Nat} {st : Rd} {B : Nat} (r : RdR w h st) (k : Below B w w') (hb : h < B) : RdR w' h st := ⟨r.1.below k hb, r.2⟩
end Go.Proofs.YtfgjhgecmelccaaDoor
namespace Go.Proofs.YtfgjhgecmelccaaDoor
open Go.RowKit

/-! The values of fields. -/
def fldS (b : Bool) (st : Rd) : Rd := if b = false ∧ (rdVal st).kind = 0 then rdF (rdVal' st) 3 else rdVal' st
theorem fldS_true (st : Rd) : fldS true st = rdVal' st := by unfold fldS; rw [if_neg (by simp)]
def rdFs' (b : Bool) : List Nat → Rd → Rd
  | [], st => st
  | _ :: l, st => rdFs' b l (fldS b st)
def rdFv (b : Bool) : List Nat → Rd → List Val → List Val
  | [], _, f => f
  | k :: l, st, f => rdFv b l (fldS b st) (f.set k (rdVal st))
/-! The fields of a mask, from one on. -/
def bitsFrom (m k : Nat) : List Nat := (List.range' k (8 - k)).filter m.testBit
theorem bitsFrom_yes {m k : Nat} (hk : k < 8) (h : m.testBit k = true) : bitsFrom m k = k :: bitsFrom m (k + 1) := by
  unfold bitsFrom
  rw [show 8 - k = (8 - (k + 1)) + 1 by omega, List.range'_succ, List.filter_cons_of_pos h]
theorem bitsFrom_no {m k : Nat} (hk : k < 8) (h : m.testBit k = false) : bitsFrom m k = bitsFrom m (k + 1) := by
  unfold bitsFrom
  rw [show 8 - k = (8 - (k + 1)) + 1 by omega, List.range'_succ, List.filter_cons_of_neg (by simp [h])]
/-! Cards. -/
def cdA (st : Rd) : Rd := rdAb' st 1073741823
def cdB (st : Rd) : Rd := rdAb' (cdA st) 1099511627776
def cdC (st : Rd) : Rd := rdN' (cdB st) 65535
def cdD (st : Rd) : Rd := rdN' (cdC st) 255
def cdM (st : Rd) : Nat := (rdN (cdC st) 255).toNat
def cdF (st : Rd) : List Val := rdFv false (bitsTo (cdM st) 8) (cdD st) f8z
@[irreducible] def rdCard' (st : Rd) : Rd := rdFs' false (bitsTo (cdM st) 8) (cdD st)
def cdCard (st : Rd) : Card := ⟨rdN st 1073741823, rdN (cdA st) 1099511627776, (rdN (cdB st) 65535).toNat, cdF st⟩
@[irreducible] def rdCard (st : Rd) : Card := if (rdCard' st).e = 0 then cdCard st else cz
end Go.Proofs.YtfgjhgecmelccaaDoor
namespace Go.Proofs.YtfgjhgecmelccaaDoor
open Go.RowKit

/-! One field, by the closure. -/
/-- One field was read: the reader, the fields; the worlds on the way. -/
def RetOne (b : Bool) (p : Option Nat) (st : Rd) (f : List Val) (k bo : Nat) (w : World) (e : Ending) (w' : World) : Prop :=
  e = .returned (.tuple #[]) ∧ RdP w' p (fldS b st) ∧ Blk w' bo (farr (f.set k (rdVal st))) ∧ ∃ w1 w2, Kept p w.heap.size w w1 ∧ Kept (some bo) w1.heap.size w1 w2 ∧ Kept p w2.heap.size w2 w'
end Go.Proofs.YtfgjhgecmelccaaDoor
namespace Go.Proofs.YtfgjhgecmelccaaDoor
open Go.RowKit

theorem Blk.alloc {w : World} {g : Nat} {cs : Array Value} (h : Blk w g cs) (o : Obj) : Blk (w.alloc o) g cs := h.below ((Below.refl _ _).alloc (Nat.le_refl _) o) h.lt
/-- What stands when k of the mask's fields have been read. -/
structure FldAt (w : World) (p : Option Nat) (b : Bool) (S : Rd) (F : List Val) (m : Nat) (A7 : Option Addr) (c7 : Nat) (k : Nat) (st : Rd) (f : List Val) (wr : World) : Prop where
  len : f.length = 8
  eS : rdFs' b ((bitsTo m 8).drop k) st = S
  eF : rdFv b ((bitsTo m 8).drop k) st f = F
  rd : RdP wr p st
  P : Blk wr w.heap.size #[ptr p]
  N : Blk wr (w.heap.size + 1) #[.bool b]
  R : ∃ z, z.size = 24 ∧ Blk wr (w.heap.size + 2) z
  O : Blk wr (w.heap.size + 3) (farr f)
  own : wr.ownsRow (w.heap.size + 4) 3 1 (.slice A7 (idx8 m).length c7) (idx8 m).length ((idx8 m).flatMap ic)
  kept : Kept p w.heap.size w wr
theorem FldAt.next {w : World} {p : Option Nat} {b : Bool} {S : Rd} {F : List Val} {m : Nat} {A7 : Option Addr} {c7 k : Nat} {st : Rd} {f : List Val} {wr w' : World} {e : Ending} (hp : ∀ g, p = some g → g < w.heap.size) (h : FldAt w p b S F m A7 c7 k st f wr)
    {n : Nat} (hk : k < (bitsTo m 8).length) (hn : n = (bitsTo m 8)[k]) (h1 : RetOne b p st f n (w.heap.size + 3) wr e w') : FldAt w p b S F m A7 c7 (k + 1) (fldS b st) (f.set n (rdVal st)) w' := by
  obtain ⟨-, hr, ho, w1, w2, k1, k2, k3⟩ := h1
  have hS := h.eS
  have hF := h.eF
  rw [List.drop_eq_getElem_cons hk, ← hn] at hS hF
  have ne : ∀ g, w.heap.size ≤ g → p ≠ some g := fun g hg e => by have := hp g e; omega
  obtain ⟨z, hz, hR⟩ := h.R
  have z1 := k1.size
  have z2 := k2.size
  have z3 := k3.size
  have zw := h.kept.size
  have tr : ∀ {g : Nat} {cs : Array Value}, Blk wr g cs → w.heap.size ≤ g → g ≠ w.heap.size + 3 → Blk w' g cs := fun hb hg hne => by
    have b1 := hb.kept k1 hb.lt (ne _ hg)
    have b2 := b1.kept k2 b1.lt (fun e => hne (by injection e with e; exact e.symm))
    exact b2.kept k3 b2.lt (ne _ hg)
  refine ⟨by rw [List.length_set]; exact h.len, hS, hF, hr, tr h.P (Nat.le_refl _) (by omega), tr h.N (by omega) (by omega), ⟨z, hz, tr hR (by omega) (by omega)⟩, ho, ?_, ?_⟩
  · have o1 := own_kept h.own k1 (fun g hg => by have := hp g hg; omega)
    have o2 := own_kept o1 k2 (fun g hg => by injection hg with hg; omega)
    exact own_kept o2 k3 (fun g hg => by have := hp g hg; omega)
  · exact ((h.kept.trans (k1.mono zw)).trans (k2.one (by omega) (.inl (by omega)))).trans (k3.mono (by omega))
end Go.Proofs.YtfgjhgecmelccaaDoor
namespace Go.Proofs.YtfgjhgecmelccaaDoor
open Go.RowKit

section
variable {a b : Int} {l m : Nat} {f g : List Val}
theorem Card.put0 (v : Int) : (Card.arr ⟨a, b, l, f⟩).setIfInBounds 0 (.int .i64 v) = Card.arr ⟨v, b, l, f⟩ := by unfold Card.arr; simp
theorem Card.put1 (v : Int) : (Card.arr ⟨a, b, l, f⟩).setIfInBounds 1 (.int .i64 v) = Card.arr ⟨a, v, l, f⟩ := by unfold Card.arr; simp
theorem Patch.put0 (v : Nat) : (Patch.arr ⟨m, l, f⟩).setIfInBounds 0 (.int .u32 v) = Patch.arr ⟨v, l, f⟩ := by unfold Patch.arr; simp
theorem Patch.put1 (v : Nat) : (Patch.arr ⟨m, l, f⟩).setIfInBounds 1 (.int .u32 v) = Patch.arr ⟨m, v, f⟩ := by unfold Patch.arr; simp
end
end Go.Proofs.YtfgjhgecmelccaaDoor
namespace Go.Proofs.YtfgjhgecmelccaaDoor
open Go.RowKit

/-! Patches. -/
def ptM (st : Rd) : Nat := (rdN st 511).toNat
def ptA (st : Rd) : Rd := rdAb' st 511
def ptL (st : Rd) : Nat := if (ptM st).testBit 8 then (rdN (ptA st) 65535).toNat else 0
def ptB (st : Rd) : Rd := if (ptM st).testBit 8 then rdN' (ptA st) 65535 else ptA st
def ptF (st : Rd) : List Val := rdFv true (bitsTo (ptM st) 8) (ptB st) f8z
@[irreducible] def rdPatch' (st : Rd) : Rd := rdFs' true (bitsTo (ptM st) 8) (ptB st)
def ptPatch (st : Rd) : Patch := ⟨ptM st, ptL st, ptF st⟩
@[irreducible] def rdPatch (st : Rd) : Patch := if (rdPatch' st).e = 0 then ptPatch st else pz
/-! Edits. -/
abbrev ez : Edit := ⟨0, 0, 0, pz⟩
def edK (st : Rd) : Int := rdN st 7
def edA (st : Rd) : Rd := rdAb' st 7
def edG (st : Rd) : Int := if hasG (edK st) then rdN (edA st) 15 else 0
def edB (st : Rd) : Rd := if hasG (edK st) then rdN' (edA st) 15 else edA st
def edI (st : Rd) : Int := if hasI (edK st) then rdN (edB st) 1073741823 else 0
def edC (st : Rd) : Rd := if hasI (edK st) then rdAb' (edB st) 1073741823 else edB st
def edP (st : Rd) : Patch := if hasP (edK st) then rdPatch (edC st) else pz
@[irreducible] def rdEdit' (st : Rd) : Rd := if hasP (edK st) then (if (rdPatch (edC st)).code = 0 then rdPatch' (edC st) else rdF (rdPatch' (edC st)) 3) else edC st
def edEdit (st : Rd) : Edit := ⟨edK st, edI st, edG st, edP st⟩
@[irreducible] def rdEdit (st : Rd) : Edit := if (rdEdit' st).e = 0 then edEdit st else ez
end Go.Proofs.YtfgjhgecmelccaaDoor
namespace Go.Proofs.YtfgjhgecmelccaaDoor
open Go.RowKit

/-- What stands when the fields below k have been read. -/
structure PatAt (w : World) (h : Nat) (S : Rd) (F : List Val) (m L : Nat) (k : Nat) (st : Rd) (f : List Val) (wr : World) : Prop where
  len : f.length = 8
  eS : rdFs' true (bitsFrom m k) st = S
  eF : rdFv true (bitsFrom m k) st f = F
  rd : RdR wr h st
  R : ∃ z, z.size = 26 ∧ Blk wr w.heap.size z
  C : Blk wr (w.heap.size + 1) (Patch.arr ⟨m, L, f⟩)
  kept : Kept (some h) w.heap.size w wr
section
variable {w wr w' : World} {h : Nat} {S : Rd} {F : List Val} {m L k : Nat} {st : Rd} {f : List Val}
theorem PatAt.no (I : PatAt w h S F m L k st f wr) (hk : k < 8) (hb : m.testBit k = false) (hw : Below wr.heap.size wr w') : PatAt w h S F m L (k + 1) st f w' := by
  have e := bitsFrom_no hk hb
  obtain ⟨z, hz, hR⟩ := I.R
  exact ⟨I.len, by rw [← e]; exact I.eS, by rw [← e]; exact I.eF, I.rd.below hw, ⟨z, hz, hR.below hw hR.lt⟩, I.C.below hw I.C.lt, I.kept.then_below hw I.kept.size⟩
theorem PatAt.one (I : PatAt w h S F m L k st f wr) (hh : h < w.heap.size) (hk : k < 8) (hb : m.testBit k = true) {w1 w2 : World} (k0 : Below wr.heap.size wr w1) (k1 : Kept (some h) w1.heap.size w1 w2) (k2 : Kept (some (w.heap.size + 1)) w2.heap.size w2 w')
    (hr : RdR w' h (rdVal' st)) (hC : Blk w' (w.heap.size + 1) (Patch.arr ⟨m, L, f.set k (rdVal st)⟩)) : PatAt w h S F m L (k + 1) (rdVal' st) (f.set k (rdVal st)) w' := by
  have e := bitsFrom_yes hk hb
  obtain ⟨z, hz, hR⟩ := I.R
  have hS := I.eS
  have hF := I.eF
  rw [e, rdFs', fldS_true] at hS
  rw [e, rdFv, fldS_true] at hF
  have z0 := k0.size
  have z1 := k1.size
  have zw := I.kept.size
  have zl := hR.lt
  have b1 := hR.below k0 hR.lt
  have b2 := b1.kept k1 b1.lt (by simp; omega)
  refine ⟨by rw [List.length_set]; exact I.len, hS, hF, hr, ⟨z, hz, b2.kept k2 b2.lt (by simp)⟩, hC, ?_⟩
  exact ((I.kept.then_below k0 zw).trans (k1.mono (by omega))).trans (k2.one (by omega) (.inl (by omega)))
end
end Go.Proofs.YtfgjhgecmelccaaDoor
/-! Era -/
namespace Go.Proofs.YtfgjhgecmelccaaDoor
open Go.RowKit

section
variable {k i g : Int} {p q : Patch}
theorem Edit.put1 (v : Int) : (Edit.arr ⟨k, i, g, p⟩).setIfInBounds 1 (.int .i64 v) = Edit.arr ⟨k, v, g, p⟩ := by unfold Edit.arr; simp
end
end Go.Proofs.YtfgjhgecmelccaaDoor
/-! W19h1 -/
namespace Go.Proofs.YtfgjhgecmelccaaDoor
open Go.RowKit

end Go.Proofs.YtfgjhgecmelccaaDoor
/-! W19h2 -/
namespace Go.Proofs.YtfgjhgecmelccaaDoor
open Go.RowKit

end Go.Proofs.YtfgjhgecmelccaaDoor
/-! W19h3 -/
namespace Go.Proofs.YtfgjhgecmelccaaDoor
open Go.RowKit

end Go.Proofs.YtfgjhgecmelccaaDoor
/-! W19k -/
namespace Go.Proofs.YtfgjhgecmelccaaDoor
open Go.RowKit

end Go.Proofs.YtfgjhgecmelccaaDoor
/-! W19i -/
namespace Go.Proofs.YtfgjhgecmelccaaDoor
open Go.RowKit

end Go.Proofs.YtfgjhgecmelccaaDoor
/-! W19j -/
namespace Go.Proofs.YtfgjhgecmelccaaDoor
open Go.RowKit

end Go.Proofs.YtfgjhgecmelccaaDoor
