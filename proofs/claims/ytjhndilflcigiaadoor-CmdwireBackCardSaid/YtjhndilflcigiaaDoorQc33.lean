/-
  A map of the call's own whose keys are few numbers written out: what an entry that is put in leaves, what a look-up finds, in a walk. No program is looked at here.
-/
import Derived.Test.YtjhndilflcigiaaDoorQc32
import Derived.Test.YtjhndilflcigiaaDoorRows
import Derived.WalkKit
import Derived.WalkSpells
import Derived.WalkLawsBesides
import Derived.Lib.Hide
import Derived.Deep.QuietTactic
import Derived.BigQuiet
import Derived.Maps.AppendAt
import Derived.WalkSmall
import Derived.ProofKit
import Derived.OpenShut
import Derived.JoinedCond
import Derived.Deep.Slices
import Derived.Deep.Fields
import Derived.Carry
import Derived.Deep.AppendSrc
import Derived.Lib.AppendStr
import Derived.Laws.BytesArg
import Derived.Test.YtjhndilflcigiaaDoorProg
import Derived.Shelf.Spec.TrailingZeros
import Derived.RangeFuncNested
import Derived.RangeFuncBound
import Derived.RangeFuncCalls
import Derived.RangeFuncLeaves
import Derived.Shelf.Abstract
import Derived.Shelf.RegionOpen
import Derived.OwnWalkIn
import Derived.TacticsInMore
import Derived.LoopNIn
import Derived.LoopIn
import Derived.Test.YtjhndilflcigiaaDoorTie
import Derived.Lib.LaidTab
import Derived.LaidMore
import Derived.SevenTiedAt
import Derived.Test.YtjhndilflcigiaaDoorCards
import Derived.Laws.Tables
import Derived.Laws.Rows
import Derived.ChangeKeysEq
import Derived.Laws.StructEq
import Derived.Deep.CutBlock
import Derived.Deep.DeepCutAuto
import Derived.Laws.CopyOwn
import Derived.Outline
import Derived.IntWalk
import Derived.Lib.EndianBits
import Derived.StillTail
import Derived.Lib.AppendZeros
import Derived.Deep.Quiet
import Derived.Maps.Own
import Derived.WalkMore
namespace Go.Proofs.YtjhndilflcigiaaDoor
open Go.RowKit
open Go.ChangeMaps (setBlock)

/-- The map at block b. -/
def MapAt (w : World) (b : Nat) (es : Array MapEntry) (clock : Nat) : Prop := w.heap[b]? = some (.map es clock)
section
variable {P : Program} {w w' : World} {b : Nat} {es : Array MapEntry} {clock : Nat}
theorem MapAt.lt (h : MapAt w b es clock) : b < w.heap.size := by
  rcases Nat.lt_or_ge b w.heap.size with hlt | hge
  · exact hlt
  · unfold MapAt at h; rw [Array.getElem?_eq_none hge] at h; cases h
theorem MapAt.new (w : World) : MapAt (w.alloc (.map #[] 0)) w.heap.size #[] 0 := heap_alloc_new w _
theorem MapAt.kept {p : Option Nat} {B : Nat} (h : MapAt w b es clock) (k : Kept p B w w') (hb : b < B) (hp : p ≠ some b) : MapAt w' b es clock := (k.block b hb hp).trans h
theorem MapAt.below {B : Nat} (h : MapAt w b es clock) (k : Below B w w') (hb : b < B) : MapAt w' b es clock := (k.block b hb).trans h
theorem isKey64 (k : Int) : MapKept.IsKey (.int .i64) (.int .i64 k) := by simp [MapKept.IsKey]
theorem stop_insert {ops : Array Oper} {rest : List Oper} {o : Oper} {a : Act} {Q : Exit → Act → World → Prop} (t : TypeId) (m x v : Operand) (_ : o.op = .insert t m x v) (h : Stop (wpList P ops Q (o :: rest) a w)) : wpList P ops Q (o :: rest) a w := h
theorem stop_lookup {ops : Array Oper} {rest : List Oper} {o : Oper} {a : Act} {Q : Exit → Act → World → Prop} (t : TypeId) (m x : Operand) (_ : o.op = .lookup t m x false) (h : Stop (wpList P ops Q (o :: rest) a w)) : wpList P ops Q (o :: rest) a w := h
theorem stop_makeMap {ops : Array Oper} {rest : List Oper} {o : Oper} {a : Act} {Q : Exit → Act → World → Prop} (t : TypeId) (_ : o.op = .makeMap t none) (h : Stop (wpList P ops Q (o :: rest) a w)) : wpList P ops Q (o :: rest) a w := h
theorem wpList_makeMapI {ops : Array Oper} {rest : List Oper} {o : Oper} {a : Act} {Q : Exit → Act → World → Prop} (hg : o.guard = none) (t : TypeId) (hop : o.op = .makeMap t none)
    (h : ∀ w', MapAt w' w.heap.size #[] 0 → Below w.heap.size w w' → w'.heap.size = w.heap.size + 1 → wpList P ops Q rest (a.put o.dst (.map (some w.heap.size))) w') : wpList P ops Q (o :: rest) a w := by
  refine wpList_plain hg fun K' hK' => ?_
  have hrun : (Instr.makeMap t none).run P w = .ok (.map (some w.heap.size)) (w.alloc (.map #[] 0)) := by simp [Instr.makeMap, Result.andThen]
  unfold Oper.wp
  simp only [execOp, hop, hrun, Option.map_none, Sem.run_bind, Sem.run_pure, Result.andThen_ok]
  exact hK' _ _ (h _ (MapAt.new w) ((Below.refl _ _).alloc (Nat.le_refl _) _) (by simp))
theorem wpList_insertI {ops : Array Oper} {rest : List Oper} {o : Oper} {a : Act} {Q : Exit → Act → World → Prop} (hg : o.guard = none) (m x v : Operand) (t : TypeId) (hop : o.op = .insert t m x v) (kt et : TypeId) (ht : P.underlying t = some (.map kt et)) (hd : P.underlying kt = some (.int .i64))
    (b : Nat) (es : Array MapEntry) (clock : Nat) (hm : a.eval m = .map (some b)) (k : Int) (hx : a.eval x = .int .i64 k) (val : Value) (hv : a.eval v = val) (hb : MapAt w b es clock) (hf : Instr.findNow (.int .i64) (.int .i64 k) es.toList 0 = some none)
    (h : ∀ w', MapAt w' b (es.push { key := .int .i64 k, val := val, born := clock }) (clock + 1) → Kept (some b) w.heap.size w w' → wpList P ops Q rest (a.put o.dst undef) w') : wpList P ops Q (o :: rest) a w := by
  refine wpList_plain hg fun K' hK' => ?_
  have hrun : (Instr.mapUpdate t (.map (some b)) (.int .i64 k) val).run P w = .ok () (setBlock w b (.map (es.push { key := .int .i64 k, val := val, born := clock }) (clock + 1))) := by
    simp [Instr.mapUpdate, run_underlying ht, MapKept.run_getObj_map hb, MapKept.run_checkKey hd (isKey64 k), MapKept.run_findKey hd hf, MapKept.run_setObj_map _ hb, Result.andThen, setBlock]
  unfold Oper.wp
  simp [execOp, hop, hm, hx, hv, hrun, Result.andThen]
  refine hK' _ _ (h _ ?_ ?_)
  · exact (MapKept.heap_set hb).1
  · exact ⟨rfl, rfl, rfl, by simp [setBlock], fun j _ hp => (MapKept.heap_set hb).2 j (fun e => hp (by rw [e]))⟩
theorem wpList_lookupI {ops : Array Oper} {rest : List Oper} {o : Oper} {a : Act} {Q : Exit → Act → World → Prop} (hg : o.guard = none) (m x : Operand) (t : TypeId) (hop : o.op = .lookup t m x false) (kt et : TypeId) (ht : P.underlying t = some (.map kt et)) (hd : P.underlying kt = some (.int .i64))
    (b : Nat) (es : Array MapEntry) (clock : Nat) (hm : a.eval m = .map (some b)) (k : Int) (hx : a.eval x = .int .i64 k) (hb : MapAt w b es clock) (i : Nat) (val : Value) (hf : Instr.findNow (.int .i64) (.int .i64 k) es.toList 0 = some (some (i, val)))
    (h : wpList P ops Q rest (a.put o.dst val) w) : wpList P ops Q (o :: rest) a w := by
  refine wpList_plain hg fun K' hK' => ?_
  have hrun : (Instr.lookup t (.map (some b)) (.int .i64 k) false).run P w = .ok val w := by
    simp [Instr.lookup, run_underlying ht, MapKept.run_getObj_map hb, MapKept.run_checkKey hd (isKey64 k), MapKept.run_findKey hd hf, Result.andThen]
  unfold Oper.wp
  simp [execOp, hop, hm, hx, hrun, Result.andThen]
  exact hK' _ _ h
theorem wpList_lookupN {ops : Array Oper} {rest : List Oper} {o : Oper} {a : Act} {Q : Exit → Act → World → Prop} (hg : o.guard = none) (m x : Operand) (t : TypeId) (hop : o.op = .lookup t m x false) (kt et : TypeId) (ht : P.underlying t = some (.map kt et)) (hd : P.underlying kt = some (.int .i64))
    (z : Value) (hz : (zeroValue et).run P w = .ok z w) (b : Nat) (es : Array MapEntry) (clock : Nat) (hm : a.eval m = .map (some b)) (k : Int) (hx : a.eval x = .int .i64 k) (hb : MapAt w b es clock) (hf : Instr.findNow (.int .i64) (.int .i64 k) es.toList 0 = some none)
    (h : wpList P ops Q rest (a.put o.dst z) w) : wpList P ops Q (o :: rest) a w := by
  refine wpList_plain hg fun K' hK' => ?_
  have hrun : (Instr.lookup t (.map (some b)) (.int .i64 k) false).run P w = .ok z w := by
    simp [Instr.lookup, run_underlying ht, MapKept.run_getObj_map hb, MapKept.run_checkKey hd (isKey64 k), MapKept.run_findKey hd hf, Result.andThen, hz]
  unfold Oper.wp
  simp [execOp, hop, hm, hx, hrun, Result.andThen]
  exact hK' _ _ h
end
/-! A call that reads and stores: two blocks may turn. -/
structure Kpq (p : Option Nat) (q B : Nat) (w w' : World) : Prop where
  os : w'.os = w.os
  tape : w'.tape = w.tape
  output : w'.output = w.output
  size : w.heap.size ≤ w'.heap.size
  block : ∀ k, k < B → p ≠ some k → k ≠ q → w'.heap[k]? = w.heap[k]?
section
variable {p : Option Nat} {q B B' : Nat} {a b c w w' : World}
theorem Kpq.refl (p : Option Nat) (q B : Nat) (w : World) : Kpq p q B w w := ⟨rfl, rfl, rfl, Nat.le_refl _, fun _ _ _ _ => rfl⟩
theorem Kpq.trans (h : Kpq p q B a b) (k : Kpq p q B b c) : Kpq p q B a c := ⟨k.os.trans h.os, k.tape.trans h.tape, k.output.trans h.output, Nat.le_trans h.size k.size, fun i hi hp hq => (k.block i hi hp hq).trans (h.block i hi hp hq)⟩
theorem Kpq.mono (h : Kpq p q B w w') (hB : B' ≤ B) : Kpq p q B' w w' := ⟨h.os, h.tape, h.output, h.size, fun k hk hp hq => h.block k (by omega) hp hq⟩
theorem Kpq.of_p (h : Kept p B w w') : Kpq p q B w w' := ⟨h.os, h.tape, h.output, h.size, fun k hk hp _ => h.block k hk hp⟩
theorem Kpq.of_q (h : Kept (some q) B w w') : Kpq p q B w w' := ⟨h.os, h.tape, h.output, h.size, fun k hk _ hq => h.block k hk (fun e => hq (by injection e with e; exact e.symm))⟩
theorem Kpq.kept (h : Kpq p q B w w') (hB : B' ≤ B) (hq : B' ≤ q) : Kept p B' w w' := ⟨h.os, h.tape, h.output, h.size, fun k hk hp => h.block k (by omega) hp (by omega)⟩
end
/-- The program's reader, and one block that may be stored into. -/
structure EnvQ (p : Option Nat) (S : Rd) (q : Nat) (cs : Array Value) (w w' : World) : Prop where
  low : ∀ g, p = some g → g < q
  lt : q < w.heap.size
  kept : Kpq p q w.heap.size w w'
  rd : RdP w' p S
  blk : Blk w' q cs
section
variable {p : Option Nat} {S S' : Rd} {q : Nat} {cs cs' : Array Value} {w w1 w2 : World}
theorem EnvQ.start (r : RdP w p S) (b : Blk w q cs) (low : ∀ g, p = some g → g < q) : EnvQ p S q cs w w := ⟨low, b.lt, Kpq.refl _ _ _ _, r, b⟩
theorem EnvQ.size (h : EnvQ p S q cs w w1) : w.heap.size ≤ w1.heap.size := h.kept.size
theorem EnvQ.call (h : EnvQ p S q cs w w1) (r : RdP w2 p S') (k : Kept p w1.heap.size w1 w2) : EnvQ p S' q cs w w2 :=
  ⟨h.low, h.lt, h.kept.trans (Kpq.of_p (k.mono h.size)), r, h.blk.kept k h.blk.lt (fun e => by have := h.low q e; omega)⟩
theorem EnvQ.below (h : EnvQ p S q cs w w1) (k : Below w1.heap.size w1 w2) : EnvQ p S q cs w w2 :=
  ⟨h.low, h.lt, h.kept.trans (Kpq.of_p (.of_below (k.mono h.size))), h.rd.below k, h.blk.below k h.blk.lt⟩
theorem EnvQ.put (h : EnvQ p S q cs w w1) (b : Blk w2 q cs') (k : Kept (some q) w1.heap.size w1 w2) : EnvQ p S q cs' w w2 :=
  ⟨h.low, h.lt, h.kept.trans (Kpq.of_q (k.mono h.size)), h.rd.kept k (fun a b ha hb => by injection hb with hb; have := h.low a ha; omega), b⟩
theorem EnvQ.store (h : EnvQ p S q cs w w1) (off : Nat) (v : Value) : EnvQ p S q (cs.setIfInBounds off v) w (w1.setCell ⟨q, off, none⟩ v) := h.put (h.blk.store off v) (kept_set w1 q off v)
theorem EnvQ.as (h : EnvQ p S q cs w w1) (e : cs = cs') : EnvQ p S q cs' w w1 := e ▸ h
theorem EnvQ.state (h : EnvQ p S q cs w w1) (e : S = S') : EnvQ p S' q cs w w1 := e ▸ h
theorem EnvQ.calls (h : EnvQ p S q cs w w1) (k : EnvQ p S' q cs' w1 w2) : EnvQ p S' q cs' w w2 := ⟨h.low, h.lt, h.kept.trans (k.kept.mono h.size), k.rd, k.blk⟩
/-- Such a call, where the block is one of the caller's own. -/
theorem EnvP.callQ {l : List (Nat × Array Value)} (h : EnvP p S w w1 ((q, cs) :: l)) (k : EnvQ p S' q cs' w1 w2) : EnvP p S' w w2 ((q, cs') :: l) := by
  obtain ⟨⟨h1, h2, h3⟩, h4⟩ := h.blks
  refine ⟨h.low, h.kept.trans (k.kept.kept h.size h2), k.rd, ⟨k.blk, h2, h3⟩, ?_⟩
  have key : ∀ l : List (Nat × Array Value), (∀ y ∈ l, y.1 ≠ q) → Blks w1 w.heap.size l → Blks w2 w.heap.size l := by
    intro l
    induction l with
    | nil => intro _ _; trivial
    | cons x r ih =>
      intro hn ⟨⟨a1, a2, a3⟩, a4⟩
      refine ⟨⟨?_, a2, a3⟩, ih (fun y hy => hn y (List.mem_cons_of_mem _ hy)) a4⟩
      obtain ⟨t, ha⟩ := a1
      have hlt : x.1 < w1.heap.size := Blk.lt ⟨t, ha⟩
      exact ⟨t, (k.kept.block x.1 hlt (fun e => by have := h.low _ e; omega) (hn x (List.mem_cons_self ..))).trans ha⟩
  exact key l h3 h4
/-- A block of the call's own that is none of the listed ones turns. -/
theorem EnvP.other {l : List (Nat × Array Value)} {g : Nat} (h : EnvP p S w w1 l) (hg : w.heap.size ≤ g) (hn : ∀ y ∈ l, y.1 ≠ g) (k : Kept (some g) w1.heap.size w1 w2) : EnvP p S w w2 l := by
  obtain ⟨a, r⟩ := h.own hg k
  exact ⟨h.low, a, r, h.blks.far k hn⟩
/-- The first block of a call's own is made. -/
theorem EnvP.go {P : Program} {ops : Array Oper} {l : List Oper} {a : Act} {Q : Exit → Act → World → Prop} {t : TypeId} (r : RdP w p S) (h : ∀ w', EnvP p S w w' [(w.heap.size, cs)] → w'.heap.size = w.heap.size + 1 → wpList P ops Q l a w') :
    wpList P ops Q l a (w.alloc (.cells cs t)) := h _ ((EnvP.start r).alloc t cs) (by simp)
end
end Go.Proofs.YtjhndilflcigiaaDoor
