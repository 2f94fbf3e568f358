/-
  Lemmas (walks and plain laws), in one text.
-/
import Derived.Test.YtldoedmclfbgpaaDoorBq1
import Derived.Test.YtldoedmclfbgpaaDoorBq2
import Derived.Maps.Own
import Derived.Great.BuildSlice
import Derived.Laws.Tables
import Derived.StillTail
import Derived.BigQuiet
namespace Go.Proofs.YtldoedmclfbgpaaDoor
open Go.RowKit

/-- Blocks from number B on, each known whole, no two the same. -/
def Blks (w : World) (B : Nat) : List (Nat × Array Value) → Prop
  | [] => True
  | x :: r => (Blk w x.1 x.2 ∧ B ≤ x.1 ∧ ∀ y ∈ r, y.1 ≠ x.1) ∧ Blks w B r
section
variable {w w' : World} {B : Nat} {l : List (Nat × Array Value)}
theorem Blks.kept {q : Option Nat} (h : Blks w B l) (k : Kept q w.heap.size w w') (hq : ∀ g, q = some g → g < B) : Blks w' B l := by
  induction l with
  | nil => trivial
  | cons x r ih =>
    obtain ⟨⟨h1, h2, h3⟩, h4⟩ := h
    exact ⟨⟨h1.kept k h1.lt (fun e => by have := hq _ e; omega), h2, h3⟩, ih h4⟩
theorem Blks.far {q : Nat} (h : Blks w B l) (k : Kept (some q) w.heap.size w w') (hq : ∀ y ∈ l, y.1 ≠ q) : Blks w' B l := by
  induction l with
  | nil => trivial
  | cons x r ih =>
    obtain ⟨⟨h1, h2, h3⟩, h4⟩ := h
    exact ⟨⟨h1.kept k h1.lt (fun e => by injection e with e; exact hq x (List.mem_cons_self ..) e.symm), h2, h3⟩, ih h4 (fun y hy => hq y (List.mem_cons_of_mem _ hy))⟩
theorem Blks.lt (h : Blks w B l) : ∀ y ∈ l, y.1 < w.heap.size := by
  induction l with
  | nil => intro y hy; cases hy
  | cons x r ih =>
    intro y hy
    rcases List.mem_cons.1 hy with rfl | hy
    · exact h.1.1.lt
    · exact ih h.2 y hy
end
theorem kept_set (w : World) (g off : Nat) (v : Value) : Kept (some g) w.heap.size w (w.setCell ⟨g, off, none⟩ v) := (Kept.refl (some g) _ w).setCell (q := ⟨g, off, none⟩) (.inr rfl) v
/-- The program's reader, and blocks of the call's own. -/
structure EnvP (p : Option Nat) (S : Rd) (w w' : World) (l : List (Nat × Array Value)) : Prop where
  low : ∀ g, p = some g → g < w.heap.size
  kept : Kept p w.heap.size w w'
  rd : RdP w' p S
  blks : Blks w' w.heap.size l
section
variable {p : Option Nat} {S S' : Rd} {w w1 w2 : World} {l : List (Nat × Array Value)} {g g0 : Nat} {cs c0 cs' : Array Value}
theorem EnvP.start (r : RdP w p S) : EnvP p S w w [] := ⟨fun _ hg => r.lt hg, Kept.refl _ _ _, r, trivial⟩
theorem EnvP.size (h : EnvP p S w w1 l) : w.heap.size ≤ w1.heap.size := h.kept.size
theorem EnvP.call (h : EnvP p S w w1 l) (r : RdP w2 p S') (k : Kept p w1.heap.size w1 w2) : EnvP p S' w w2 l :=
  ⟨h.low, h.kept.then_kept k h.size, r, h.blks.kept k h.low⟩
theorem EnvP.below (h : EnvP p S w w1 l) (k : Below w1.heap.size w1 w2) : EnvP p S w w2 l :=
  ⟨h.low, h.kept.then_below k h.size, h.rd.below k, h.blks.kept (q := none) (.of_below k) (fun _ e => by cases e)⟩
theorem EnvP.alloc (h : EnvP p S w w1 l) (t : TypeId) (cs : Array Value) : EnvP p S w (w1.alloc (.cells cs t)) ((w1.heap.size, cs) :: l) := by
  have h' := h.below ((Below.refl _ _).alloc (Nat.le_refl _) (.cells cs t))
  exact ⟨h.low, h'.kept, h'.rd, ⟨Blk.new _ _ _, h.size, fun y hy => by have := h.blks.lt y hy; simp only; omega⟩, h'.blks⟩
theorem EnvP.own (h : EnvP p S w w1 l) (hg : w.heap.size ≤ g) (k : Kept (some g) w1.heap.size w1 w2) : Kept p w.heap.size w w2 ∧ RdP w2 p S :=
  ⟨h.kept.trans (k.one h.size (.inl hg)), h.rd.kept k (fun a b ha hb => by injection hb with hb; have := h.low a ha; omega)⟩
theorem EnvP.put0 (h : EnvP p S w w1 ((g, cs) :: l)) (b : Blk w2 g cs') (k : Kept (some g) w1.heap.size w1 w2) : EnvP p S w w2 ((g, cs') :: l) := by
  obtain ⟨⟨h1, h2, h3⟩, h4⟩ := h.blks
  obtain ⟨a, r⟩ := h.own h2 k
  exact ⟨h.low, a, r, ⟨b, h2, h3⟩, h4.far k h3⟩
theorem EnvP.put1 (h : EnvP p S w w1 ((g0, c0) :: (g, cs) :: l)) (b : Blk w2 g cs') (k : Kept (some g) w1.heap.size w1 w2) : EnvP p S w w2 ((g0, c0) :: (g, cs') :: l) := by
  obtain ⟨⟨a1, a2, a3⟩, ⟨h1, h2, h3⟩, h4⟩ := h.blks
  obtain ⟨a, r⟩ := h.own h2 k
  have hne := a3 (g, cs) (List.mem_cons_self ..)
  refine ⟨h.low, a, r, ⟨a1.kept k a1.lt (fun e => by injection e with e; exact hne e), a2, fun y hy => ?_⟩, ⟨b, h2, h3⟩, h4.far k h3⟩
  rcases List.mem_cons.1 hy with rfl | hy
  · exact hne
  · exact a3 y (List.mem_cons_of_mem _ hy)
theorem EnvP.b0 (h : EnvP p S w w1 ((g, cs) :: l)) : Blk w1 g cs := h.blks.1.1
theorem EnvP.b1 (h : EnvP p S w w1 ((g0, c0) :: (g, cs) :: l)) : Blk w1 g cs := h.blks.2.1.1
theorem EnvP.store0 (h : EnvP p S w w1 ((g, cs) :: l)) (off : Nat) (v : Value) : EnvP p S w (w1.setCell ⟨g, off, none⟩ v) ((g, cs.setIfInBounds off v) :: l) := h.put0 (h.b0.store off v) (kept_set w1 g off v)
theorem EnvP.store1 (h : EnvP p S w w1 ((g0, c0) :: (g, cs) :: l)) (off : Nat) (v : Value) : EnvP p S w (w1.setCell ⟨g, off, none⟩ v) ((g0, c0) :: (g, cs.setIfInBounds off v) :: l) := h.put1 (h.b1.store off v) (kept_set w1 g off v)
theorem EnvP.as (h : EnvP p S w w1 ((g, cs) :: l)) (e : cs = cs') : EnvP p S w w1 ((g, cs') :: l) := e ▸ h
theorem EnvP.state (h : EnvP p S w w1 l) (e : S = S') : EnvP p S' w w1 l := e ▸ h
end
/-- The reference's reader, and blocks of the call's own. -/
structure EnvR (p : Nat) (S : Rd) (w w' : World) (l : List (Nat × Array Value)) : Prop where
  low : p < w.heap.size
  kept : Kept (some p) w.heap.size w w'
  rd : RdR w' p S
  blks : Blks w' w.heap.size l
section
variable {p : Nat} {S S' : Rd} {w w1 w2 : World} {l : List (Nat × Array Value)} {g g0 : Nat} {cs c0 cs' : Array Value}
theorem EnvR.start (r : RdR w p S) : EnvR p S w w [] := ⟨r.lt, Kept.refl _ _ _, r, trivial⟩
theorem EnvR.size (h : EnvR p S w w1 l) : w.heap.size ≤ w1.heap.size := h.kept.size
theorem EnvR.call (h : EnvR p S w w1 l) (r : RdR w2 p S') (k : Kept (some p) w1.heap.size w1 w2) : EnvR p S' w w2 l :=
  ⟨h.low, h.kept.then_kept k h.size, r, h.blks.kept k (fun g e => by injection e with e; have := h.low; omega)⟩
theorem EnvR.below (h : EnvR p S w w1 l) (k : Below w1.heap.size w1 w2) : EnvR p S w w2 l :=
  ⟨h.low, h.kept.then_below k h.size, h.rd.below k, h.blks.kept (q := none) (.of_below k) (fun _ e => by cases e)⟩
theorem EnvR.alloc (h : EnvR p S w w1 l) (t : TypeId) (cs : Array Value) : EnvR p S w (w1.alloc (.cells cs t)) ((w1.heap.size, cs) :: l) := by
  have h' := h.below ((Below.refl _ _).alloc (Nat.le_refl _) (.cells cs t))
  exact ⟨h.low, h'.kept, h'.rd, ⟨Blk.new _ _ _, h.size, fun y hy => by have := h.blks.lt y hy; simp only; omega⟩, h'.blks⟩
theorem EnvR.own (h : EnvR p S w w1 l) (hg : w.heap.size ≤ g) (k : Kept (some g) w1.heap.size w1 w2) : Kept (some p) w.heap.size w w2 ∧ RdR w2 p S :=
  ⟨h.kept.trans (k.one h.size (.inl hg)), h.rd.kept k (fun e => by injection e with e; have := h.low; omega)⟩
theorem EnvR.put0 (h : EnvR p S w w1 ((g, cs) :: l)) (b : Blk w2 g cs') (k : Kept (some g) w1.heap.size w1 w2) : EnvR p S w w2 ((g, cs') :: l) := by
  obtain ⟨⟨h1, h2, h3⟩, h4⟩ := h.blks
  obtain ⟨a, r⟩ := h.own h2 k
  exact ⟨h.low, a, r, ⟨b, h2, h3⟩, h4.far k h3⟩
theorem EnvR.put1 (h : EnvR p S w w1 ((g0, c0) :: (g, cs) :: l)) (b : Blk w2 g cs') (k : Kept (some g) w1.heap.size w1 w2) : EnvR p S w w2 ((g0, c0) :: (g, cs') :: l) := by
  obtain ⟨⟨a1, a2, a3⟩, ⟨h1, h2, h3⟩, h4⟩ := h.blks
  obtain ⟨a, r⟩ := h.own h2 k
  have hne := a3 (g, cs) (List.mem_cons_self ..)
  refine ⟨h.low, a, r, ⟨a1.kept k a1.lt (fun e => by injection e with e; exact hne e), a2, fun y hy => ?_⟩, ⟨b, h2, h3⟩, h4.far k h3⟩
  rcases List.mem_cons.1 hy with rfl | hy
  · exact hne
  · exact a3 y (List.mem_cons_of_mem _ hy)
theorem EnvR.b0 (h : EnvR p S w w1 ((g, cs) :: l)) : Blk w1 g cs := h.blks.1.1
theorem EnvR.b1 (h : EnvR p S w w1 ((g0, c0) :: (g, cs) :: l)) : Blk w1 g cs := h.blks.2.1.1
theorem EnvR.store0 (h : EnvR p S w w1 ((g, cs) :: l)) (off : Nat) (v : Value) : EnvR p S w (w1.setCell ⟨g, off, none⟩ v) ((g, cs.setIfInBounds off v) :: l) := h.put0 (h.b0.store off v) (kept_set w1 g off v)
theorem EnvR.store1 (h : EnvR p S w w1 ((g0, c0) :: (g, cs) :: l)) (off : Nat) (v : Value) : EnvR p S w (w1.setCell ⟨g, off, none⟩ v) ((g0, c0) :: (g, cs.setIfInBounds off v) :: l) := h.put1 (h.b1.store off v) (kept_set w1 g off v)
theorem EnvR.as (h : EnvR p S w w1 ((g, cs) :: l)) (e : cs = cs') : EnvR p S w w1 ((g, cs') :: l) := e ▸ h
theorem EnvR.state (h : EnvR p S w w1 l) (e : S = S') : EnvR p S' w w1 l := e ▸ h
end
end Go.Proofs.YtldoedmclfbgpaaDoor
namespace Go.Proofs.YtldoedmclfbgpaaDoor
open Go.RowKit
open Go.ChangeMaps (setBlock)

/-- The map at block b. -/
def MapAt (w : World) (b : Nat) (es : Array MapEntry) (clock : Nat) : Prop := w.heap[b]? = some (.map es clock)
section
variable {P : Program} {w w' : World} {b : Nat} {es : Array MapEntry} {clock : Nat}
theorem MapAt.lt (h : MapAt w b es clock) : b < w.heap.size := by
  rcases Nat.lt_or_ge b w.heap.size with hlt | hge
  · exact hlt
  · unfold MapAt at h; rw [Array.getElem?_eq_none hge] at h; cases h
theorem MapAt.new (w : World) : MapAt (w.alloc (.map #[] 0)) w.heap.size #[] 0 := heap_alloc_new w _
theorem MapAt.kept {p : Option Nat} {B : Nat} (h : MapAt w b es clock) (k : Kept p B w w') (hb : b < B) (hp : p ≠ some b) : MapAt w' b es clock := (k.block b hb hp).trans h
theorem MapAt.below {B : Nat} (h : MapAt w b es clock) (k : Below B w w') (hb : b < B) : MapAt w' b es clock := (k.block b hb).trans h
theorem isKey64 (k : Int) : MapKept.IsKey (.int .i64) (.int .i64 k) := by simp [MapKept.IsKey]
theorem stop_makeMap {ops : Array Oper} {rest : List Oper} {o : Oper} {a : Act} {Q : Exit → Act → World → Prop} (t : TypeId) (_ : o.op = .makeMap t none) (h : Stop (wpList P ops Q (o :: rest) a w)) : wpList P ops Q (o :: rest) a w := h
theorem wpList_makeMapI {ops : Array Oper} {rest : List Oper} {o : Oper} {a : Act} {Q : Exit → Act → World → Prop} (hg : o.guard = none) (t : TypeId) (hop : o.op = .makeMap t none)
    (h : ∀ w', MapAt w' w.heap.size #[] 0 → Below w.heap.size w w' → w'.heap.size = w.heap.size + 1 → wpList P ops Q rest (a.put o.dst (.map (some w.heap.size))) w') : wpList P ops Q (o :: rest) a w := by
  refine wpList_plain hg fun K' hK' => ?_
  have hrun : (Instr.makeMap t none).run P w = .ok (.map (some w.heap.size)) (w.alloc (.map #[] 0)) := by simp [Instr.makeMap, Result.andThen]
  unfold Oper.wp
  simp only [execOp, hop, hrun, Option.map_none, Sem.run_bind, Sem.run_pure, Result.andThen_ok]
  exact hK' _ _ (h _ (MapAt.new w) ((Below.refl _ _).alloc (Nat.le_refl _) _) (by simp))
end
/-! A call that reads and stores: two blocks may turn. -/
structure Kpq (p : Option Nat) (q B : Nat) (w w' : World) : Prop where
  os : w'.os = w.os
  tape : w'.tape = w.tape
  output : w'.output = w.output
  size : w.heap.size ≤ w'.heap.size
  block : ∀ k, k < B → p ≠ some k → k ≠ q → w'.heap[k]? = w.heap[k]?
section
variable {p : Option Nat} {q B B' : Nat} {a b c w w' : World}
theorem Kpq.refl (p : Option Nat) (q B : Nat) (w : World) : Kpq p q B w w := ⟨rfl, rfl, rfl, Nat.le_refl _, fun _ _ _ _ => rfl⟩
theorem Kpq.trans (h : Kpq p q B a b) (k : Kpq p q B b c) : Kpq p q B a c := ⟨k.os.trans h.os, k.tape.trans h.tape, k.output.trans h.output, Nat.le_trans h.size k.size, fun i hi hp hq => (k.block i hi hp hq).trans (h.block i hi hp hq)⟩
theorem Kpq.mono (h : Kpq p q B w w') (hB : B' ≤ B) : Kpq p q B' w w' := ⟨h.os, h.tape, h.output, h.size, fun k hk hp hq => h.block k (by omega) hp hq⟩
theorem Kpq.of_p (h : Kept p B w w') : Kpq p q B w w' := ⟨h.os, h.tape, h.output, h.size, fun k hk hp _ => h.block k hk hp⟩
theorem Kpq.of_q (h : Kept (some q) B w w') : Kpq p q B w w' := ⟨h.os, h.tape, h.output, h.size, fun k hk _ hq => h.block k hk (fun e => hq (by injection e with e; exact e.symm))⟩
theorem Kpq.kept (h : Kpq p q B w w') (hB : B' ≤ B) (hq : B' ≤ q) : Kept p B' w w' := ⟨h.os, h.tape, h.output, h.size, fun k hk hp => h.block k (by omega) hp (by omega)⟩
end
/-- The program's reader, and one block that may be stored into. -/
structure EnvQ (p : Option Nat) (S : Rd) (q : Nat) (cs : Array Value) (w w' : World) : Prop where
  low : ∀ g, p = some g → g < q
  lt : q < w.heap.size
  kept : Kpq p q w.heap.size w w'
  rd : RdP w' p S
  blk : Blk w' q cs
section
variable {p : Option Nat} {S S' : Rd} {q : Nat} {cs cs' : Array Value} {w w1 w2 : World}
theorem EnvQ.start (r : RdP w p S) (b : Blk w q cs) (low : ∀ g, p = some g → g < q) : EnvQ p S q cs w w := ⟨low, b.lt, Kpq.refl _ _ _ _, r, b⟩
theorem EnvQ.size (h : EnvQ p S q cs w w1) : w.heap.size ≤ w1.heap.size := h.kept.size
theorem EnvQ.call (h : EnvQ p S q cs w w1) (r : RdP w2 p S') (k : Kept p w1.heap.size w1 w2) : EnvQ p S' q cs w w2 :=
  ⟨h.low, h.lt, h.kept.trans (Kpq.of_p (k.mono h.size)), r, h.blk.kept k h.blk.lt (fun e => by have := h.low q e; omega)⟩
theorem EnvQ.below (h : EnvQ p S q cs w w1) (k : Below w1.heap.size w1 w2) : EnvQ p S q cs w w2 :=
  ⟨h.low, h.lt, h.kept.trans (Kpq.of_p (.of_below (k.mono h.size))), h.rd.below k, h.blk.below k h.blk.lt⟩
theorem EnvQ.put (h : EnvQ p S q cs w w1) (b : Blk w2 q cs') (k : Kept (some q) w1.heap.size w1 w2) : EnvQ p S q cs' w w2 :=
  ⟨h.low, h.lt, h.kept.trans (Kpq.of_q (k.mono h.size)), h.rd.kept k (fun a b ha hb => by injection hb with hb; have := h.low a ha; omega), b⟩
theorem EnvQ.store (h : EnvQ p S q cs w w1) (off : Nat) (v : Value) : EnvQ p S q (cs.setIfInBounds off v) w (w1.setCell ⟨q, off, none⟩ v) := h.put (h.blk.store off v) (kept_set w1 q off v)
theorem EnvQ.as (h : EnvQ p S q cs w w1) (e : cs = cs') : EnvQ p S q cs' w w1 := e ▸ h
theorem EnvQ.state (h : EnvQ p S q cs w w1) (e : S = S') : EnvQ p S' q cs w w1 := e ▸ h
theorem EnvQ.calls (h : EnvQ p S q cs w w1) (k : EnvQ p S' q cs' w1 w2) : EnvQ p S' q cs' w w2 := ⟨h.low, h.lt, h.kept.trans (k.kept.mono h.size), k.rd, k.blk⟩
/-- A block of the call's own that is none of the listed ones turns. -/
theorem EnvP.other {l : List (Nat × Array Value)} {g : Nat} (h : EnvP p S w w1 l) (hg : w.heap.size ≤ g) (hn : ∀ y ∈ l, y.1 ≠ g) (k : Kept (some g) w1.heap.size w1 w2) : EnvP p S w w2 l := by
  obtain ⟨a, r⟩ := h.own hg k
  exact ⟨h.low, a, r, h.blks.far k hn⟩
/-- The first block of a call's own is made. -/
theorem EnvP.go {P : Program} {ops : Array Oper} {l : List Oper} {a : Act} {Q : Exit → Act → World → Prop} {t : TypeId} (r : RdP w p S) (h : ∀ w', EnvP p S w w' [(w.heap.size, cs)] → w'.heap.size = w.heap.size + 1 → wpList P ops Q l a w') :
    wpList P ops Q l a (w.alloc (.cells cs t)) := h _ ((EnvP.start r).alloc t cs) (by simp)
end
end Go.Proofs.YtldoedmclfbgpaaDoor
namespace Go.Proofs.YtldoedmclfbgpaaDoor
open Go.RowKit

def esOf : List CQ → Nat → List MapEntry
  | [], _ => []
  | x :: r, i => { key := .int .i64 x.c.id, val := .agg x.c.arr, born := i } :: esOf r (i + 1)
def esA (l : List CQ) : Array MapEntry := (esOf l 0).toArray
theorem esOf_snoc : ∀ (l : List CQ) (x : CQ) (i : Nat), esOf (l ++ [x]) i = esOf l i ++ [{ key := .int .i64 x.c.id, val := .agg x.c.arr, born := i + l.length }]
  | [], x, i => rfl
  | y :: l, x, i => by
    rw [List.cons_append, esOf, esOf_snoc l x (i + 1), esOf, List.length_cons, List.cons_append, show i + 1 + l.length = i + (l.length + 1) by omega]
theorem esA_push (l : List CQ) (x : CQ) : (esA l).push { key := .int .i64 x.c.id, val := .agg x.c.arr, born := l.length } = esA (l ++ [x]) := by
  unfold esA
  rw [esOf_snoc, Nat.zero_add]
  simp
theorem esOf_keys : ∀ (l : List CQ) (i : Nat), ∀ e ∈ esOf l i, ∃ x ∈ l, e.key = .int .i64 x.c.id ∧ e.val = .agg x.c.arr
  | [], _, e, h => by cases h
  | y :: l, i, e, h => by
    rw [esOf] at h
    rcases List.mem_cons.1 h with rfl | h
    · exact ⟨y, List.mem_cons_self .., rfl, rfl⟩
    · obtain ⟨x, hx, h1, h2⟩ := esOf_keys l (i + 1) e h
      exact ⟨x, List.mem_cons_of_mem _ hx, h1, h2⟩
theorem esOf_has : ∀ (l : List CQ) (i : Nat), ∀ x ∈ l, ∃ e ∈ esOf l i, e.key = .int .i64 x.c.id
  | [], _, x, h => by cases h
  | y :: l, i, x, h => by
    rw [esOf]
    rcases List.mem_cons.1 h with rfl | h
    · exact ⟨_, List.mem_cons_self .., rfl⟩
    · obtain ⟨e, he, h1⟩ := esOf_has l (i + 1) x h
      exact ⟨e, List.mem_cons_of_mem _ he, h1⟩
theorem es_isKey (l : List CQ) : ∀ e ∈ esOf l 0, MapKept.IsKey (.int .i64) e.key := by
  intro e he
  obtain ⟨x, -, h1, -⟩ := esOf_keys l 0 e he
  rw [h1]
  exact isKey64 _
theorem find_none {l : List CQ} {k : Int} (h : hasCard (l.map CQ.c) k = false) : Instr.findNow (.int .i64) (.int .i64 k) (esA l).toList 0 = some none := by
  rcases MapKept.findNow_spec (isKey64 k) (esOf l 0) 0 (es_isKey l) with ⟨h1, -⟩ | ⟨j, e, -, h2, h3⟩
  · exact h1
  · exfalso
    obtain ⟨x, hx, h4, -⟩ := esOf_keys l 0 e (List.mem_of_getElem? h2)
    rw [h4] at h3
    injection h3 with _ h3
    unfold hasCard at h
    rw [List.any_eq_false] at h
    exact h x.c (List.mem_map.2 ⟨x, hx, rfl⟩) (by simpa using h3)
theorem find_some {l : List CQ} {k : Int} (h : hasCard (l.map CQ.c) k = true) : ∃ (i : Nat) (x : CQ), x ∈ l ∧ Instr.findNow (.int .i64) (.int .i64 k) (esA l).toList 0 = some (some (i, .agg x.c.arr)) := by
  rcases MapKept.findNow_spec (isKey64 k) (esOf l 0) 0 (es_isKey l) with ⟨-, h1⟩ | ⟨j, e, h1, h2, h3⟩
  · exfalso
    unfold hasCard at h
    obtain ⟨c, hc, hk⟩ := List.any_eq_true.1 h
    obtain ⟨x, hx, rfl⟩ := List.mem_map.1 hc
    obtain ⟨e, he, h4⟩ := esOf_has l 0 x hx
    exact h1 e he (by rw [h4, of_decide_eq_true hk])
  · obtain ⟨x, hx, -, h5⟩ := esOf_keys l 0 e (List.mem_of_getElem? h2)
    exact ⟨0 + j, x, hx, by rw [← h5]; exact h1⟩
section
variable {P : Program} {w w' : World}
theorem stop_lookup2 {ops : Array Oper} {rest : List Oper} {o : Oper} {a : Act} {Q : Exit → Act → World → Prop} (t : TypeId) (m x : Operand) (_ : o.op = .lookup t m x true) (h : Stop (wpList P ops Q (o :: rest) a w)) : wpList P ops Q (o :: rest) a w := h
theorem wpList_lookup2I {ops : Array Oper} {rest : List Oper} {o : Oper} {a : Act} {Q : Exit → Act → World → Prop} (hg : o.guard = none) (m x : Operand) (t : TypeId) (hop : o.op = .lookup t m x true) (kt et : TypeId) (ht : P.underlying t = some (.map kt et)) (hd : P.underlying kt = some (.int .i64))
    (b : Nat) (es : Array MapEntry) (clock : Nat) (hm : a.eval m = .map (some b)) (k : Int) (hx : a.eval x = .int .i64 k) (hb : MapAt w b es clock) (i : Nat) (val : Value) (hf : Instr.findNow (.int .i64) (.int .i64 k) es.toList 0 = some (some (i, val)))
    (h : wpList P ops Q rest (a.put o.dst (.tuple #[val, .bool true])) w) : wpList P ops Q (o :: rest) a w := by
  refine wpList_plain hg fun K' hK' => ?_
  have hrun : (Instr.lookup t (.map (some b)) (.int .i64 k) true).run P w = .ok (.tuple #[val, .bool true]) w := by
    simp [Instr.lookup, run_underlying ht, MapKept.run_getObj_map hb, MapKept.run_checkKey hd (isKey64 k), MapKept.run_findKey hd hf, Result.andThen]
  unfold Oper.wp
  simp [execOp, hop, hm, hx, hrun, Result.andThen]
  exact hK' _ _ h
theorem wpList_lookup2N {ops : Array Oper} {rest : List Oper} {o : Oper} {a : Act} {Q : Exit → Act → World → Prop} (hg : o.guard = none) (m x : Operand) (t : TypeId) (hop : o.op = .lookup t m x true) (kt et : TypeId) (ht : P.underlying t = some (.map kt et)) (hd : P.underlying kt = some (.int .i64))
    (z : Value) (hz : (zeroValue et).run P w = .ok z w) (b : Nat) (es : Array MapEntry) (clock : Nat) (hm : a.eval m = .map (some b)) (k : Int) (hx : a.eval x = .int .i64 k) (hb : MapAt w b es clock) (hf : Instr.findNow (.int .i64) (.int .i64 k) es.toList 0 = some none)
    (h : wpList P ops Q rest (a.put o.dst (.tuple #[z, .bool false])) w) : wpList P ops Q (o :: rest) a w := by
  refine wpList_plain hg fun K' hK' => ?_
  have hrun : (Instr.lookup t (.map (some b)) (.int .i64 k) true).run P w = .ok (.tuple #[z, .bool false]) w := by
    simp [Instr.lookup, run_underlying ht, MapKept.run_getObj_map hb, MapKept.run_checkKey hd (isKey64 k), MapKept.run_findKey hd hf, Result.andThen, hz]
  unfold Oper.wp
  simp [execOp, hop, hm, hx, hrun, Result.andThen]
  exact hK' _ _ h
theorem stop_mapUpd {ops : Array Oper} {rest : List Oper} {o : Oper} {a : Act} {Q : Exit → Act → World → Prop} (t : TypeId) (m x v : Operand) (_ : o.op = .mapUpdate t m x v) (h : Stop (wpList P ops Q (o :: rest) a w)) : wpList P ops Q (o :: rest) a w := h
open Go.ChangeMaps (setBlock) in
theorem wpList_mapUpdI {ops : Array Oper} {rest : List Oper} {o : Oper} {a : Act} {Q : Exit → Act → World → Prop} (hg : o.guard = none) (m x v : Operand) (t : TypeId) (hop : o.op = .mapUpdate t m x v) (kt et : TypeId) (ht : P.underlying t = some (.map kt et)) (hd : P.underlying kt = some (.int .i64))
    (b : Nat) (es : Array MapEntry) (clock : Nat) (hm : a.eval m = .map (some b)) (k : Int) (hx : a.eval x = .int .i64 k) (val : Value) (hv : a.eval v = val) (hb : MapAt w b es clock) (hf : Instr.findNow (.int .i64) (.int .i64 k) es.toList 0 = some none)
    (h : ∀ w', MapAt w' b (es.push { key := .int .i64 k, val := val, born := clock }) (clock + 1) → Kept (some b) w.heap.size w w' → wpList P ops Q rest (a.put o.dst undef) w') : wpList P ops Q (o :: rest) a w := by
  refine wpList_plain hg fun K' hK' => ?_
  have hrun : (Instr.mapUpdate t (.map (some b)) (.int .i64 k) val).run P w = .ok () (setBlock w b (.map (es.push { key := .int .i64 k, val := val, born := clock }) (clock + 1))) := by
    simp [Instr.mapUpdate, run_underlying ht, MapKept.run_getObj_map hb, MapKept.run_checkKey hd (isKey64 k), MapKept.run_findKey hd hf, MapKept.run_setObj_map _ hb, Result.andThen, setBlock]
  unfold Oper.wp
  simp [execOp, hop, hm, hx, hv, hrun, Result.andThen]
  refine hK' _ _ (h _ ?_ ?_)
  · exact (MapKept.heap_set hb).1
  · exact ⟨rfl, rfl, rfl, by simp [setBlock], fun j _ hp => (MapKept.heap_set hb).2 j (fun e => hp (by rw [e]))⟩
end
end Go.Proofs.YtldoedmclfbgpaaDoor
namespace Go.Proofs.YtldoedmclfbgpaaDoor
open Go.RowKit

theorem stop_build {P : Program} {w : World} {ops : Array Oper} {rest : List Oper} {o : Oper} {a : Act} {Q : Exit → Act → World → Prop} (t : TypeId) (parts : Array (Nat × Operand)) (_ : o.op = .build t parts) (h : Stop (wpList P ops Q (o :: rest) a w)) : wpList P ops Q (o :: rest) a w := h
theorem wpList_buildD {P : Program} {w : World} {ops : Array Oper} {rest : List Oper} {o : Oper} {a : Act} {Q : Exit → Act → World → Prop} (hgd : o.guard = none) (t : TypeId) (parts : Array (Nat × Operand)) (ho : o.op = .build t parts) (ps : List (Nat × Value))
    (hp : (parts.toList.map fun (i, x) => (i, a.eval x)) = ps) (cells : Array Value) (hc : P.built t ps = some cells)
    (h : wpList P ops Q rest (a.put o.dst (.agg cells)) w) : wpList P ops Q (o :: rest) a w := by
  refine wpList_plain hgd fun K hK => ?_
  unfold Oper.wp execOp
  simp only [ho, Sem.run_bind, run_build w t _ cells (by rw [Array.toList_map, hp]; exact hc), Result.andThen_ok]
  exact hK _ _ h
theorem foldl_put : ∀ (vs : List Value) (cs : Array Value) (off k : Nat), (vs.zipIdx k).foldl (fun cs (x : Value × Nat) => cs.setIfInBounds (off + x.2) x.1) cs = putAt cs (off + k) vs
  | [], _, _, _ => rfl
  | v :: r, cs, off, k => by
    rw [List.zipIdx_cons, List.foldl_cons, foldl_put r, putAt]
    rfl
theorem fill_agg (pl : Nat → Option (Nat × Nat)) (cells : Array Value) (i off n : Nat) (E : Array Value) (rest : List (Nat × Value)) (hp : pl i = some (off, n)) (hn : E.size = n) (hs : off + n ≤ cells.size) : Instr.fill pl cells ((i, .agg E) :: rest) = Instr.fill pl (putAt cells off E.toList) rest := by
  subst hn
  rw [Instr.fill, hp]
  have hc : (Value.agg E).cells = E := rfl
  simp only [hc]
  rw [if_neg (by simp; omega)]
  congr 1
  have := foldl_put E.toList cells off 0
  rw [Nat.add_zero] at this
  rw [← this, ← Array.foldl_toList, Array.toList_zipIdx]

theorem putAt_full (cs : Array Value) (vs : List Value) (h : cs.size = vs.length) : putAt cs 0 vs = vs.toArray := by
  apply Array.ext_getElem?
  intro i
  have hr : vs.toArray[i]? = vs[i]? := by simp
  rw [hr]
  by_cases hi : i < vs.length
  · have := putAt_in vs cs 0 i (by omega) hi
    rwa [Nat.zero_add] at this
  · rw [Array.getElem?_eq_none (by rw [putAt_size]; omega), List.getElem?_eq_none (by omega)]
theorem stop_lit {P : Program} {w : World} {ops : Array Oper} {rest : List Oper} {o : Oper} {a : Act} {Q : Exit → Act → World → Prop} (t : TypeId) (parts : Array (Nat × Operand)) (_ : o.op = .buildSlice t 1 parts) (h : Stop (wpList P ops Q (o :: rest) a w)) : wpList P ops Q (o :: rest) a w := h
theorem wpList_lit1 {P : Program} {w : World} {ops : Array Oper} {rest : List Oper} {o : Oper} {a : Act} {Q : Exit → Act → World → Prop} (hg : o.guard = none) (t e : TypeId) (x : Operand) (ho : o.op = .buildSlice t 1 #[(0, x)]) {n bytes : Nat} (I : Elem P t e n bytes) (hn : n ≤ 16777216) (E : Array Value)
    (hx : a.eval x = .agg E) (hE : E.size = n) (h : wpList P ops Q rest (a.put o.dst (.slice (some ⟨w.heap.size, 0, none⟩) 1 1)) (w.alloc (.cells E e))) : wpList P ops Q (o :: rest) a w := by
  obtain ⟨i, z, h1, h2, h3, h4, h5⟩ := I.info
  have hp := I.pos
  refine wpList_buildSlice hg t e 1 _ ho E i z I.under h1 h2 (by omega) (by omega) ?_ h
  have e0 : ((#[(0, x)] : Array (Nat × Operand)).map fun (i, x) => (i, a.eval x)).toList = [(0, .agg E)] := by simp [hx]
  rw [e0, fill_agg _ _ 0 0 n E [] (by simp [h3]) hE (by simp; omega)]
  rw [putAt_full _ _ (by simp; omega)]
  simp [Instr.fill]
end Go.Proofs.YtldoedmclfbgpaaDoor
namespace Go.Proofs.YtldoedmclfbgpaaDoor
open Go.RowKit

/-- What is told of an operation's value. -/
structure Sp where
  holds : Value → World → Prop
  stays : ∀ v w w', holds v w → Below w.heap.size w w' → holds v w'
def Sp.any : Sp := ⟨fun _ _ => True, fun _ _ _ _ _ => trivial⟩
def Sp.eq (x : Value) : Sp := ⟨fun v _ => v = x, fun _ _ _ h _ => h⟩
def Sp.slice {α : Type} (k : Nat) (cs : α → List Value) (l : List α) : Sp := ⟨fun v w => ∃ A c, v = .slice A l.length c ∧ In k cs w A c l, fun _ _ _ ⟨A, c, hv, h⟩ hb => ⟨A, c, hv, h.below hb⟩⟩
theorem Sp.eq_holds (x v : Value) (w : World) : (Sp.eq x).holds v w = (v = x) := rfl
theorem Sp.slice_holds {α : Type} (k : Nat) (cs : α → List Value) (l : List α) (v : Value) (w : World) : (Sp.slice k cs l).holds v w = ∃ A c, v = .slice A l.length c ∧ In k cs w A c l := rfl

def dstOf (ops : Array Oper) (j : Nat) : Option Tmp := (ops[j]?).bind (·.dst)
/-- The frame with all values put. -/
def putAll (u : Nat → Value) : List Oper → Nat → Act → Act
  | [], _, a => a
  | o :: r, i, a => putAll u r (i + 1) (a.put o.dst (u i))
/-- The frame with the values of what is waited for. -/
def putDeps (ops : Array Oper) (u : Nat → Value) : List Edge → Act → Act
  | [], a => a
  | e :: r, a => putDeps ops u r (if Region.binds .any e = true then a.put (dstOf ops e.on) (u e.on) else a)
def Deps (S : List Sp) (u : Nat → Value) (w : World) : List Edge → Prop
  | [] => True
  | e :: r => (Region.binds .any e = true → (S.getD e.on Sp.any).holds (u e.on) w) ∧ Deps S u w r
def RelEnd (ds : List Deferred) (d : Option Tmp) (s : Sp) (w1 : World) (e : Exit) (a' : Act) (w' : World) : Prop :=
  e = .normal ∧ a'.defers = ds ∧ Below w1.heap.size w1 w' ∧ ∀ t, d = some t → s.holds (a'.tmps.getD t undef) w'
theorem RelEnd.mk {ds : List Deferred} {d : Tmp} {s : Sp} {w1 : World} {a' : Act} {w' : World} (h1 : a'.defers = ds) (h2 : Below w1.heap.size w1 w') (h3 : s.holds (a'.tmps.getD d undef) w') : RelEnd ds (some d) s w1 .normal a' w' :=
  ⟨rfl, h1, h2, fun t e => by injection e with e; subst e; exact h3⟩
def RelGoals (P : Program) (ops : Array Oper) (S : List Sp) (a : Act) (w : World) : List Oper → Nat → Prop
  | [], _ => True
  | o :: r, i => (∀ (u : Nat → Value) (w1 : World), Below w.heap.size w w1 → Deps S u w1 o.after.toList → wpList P ops (RelEnd a.defers o.dst (S.getD i Sp.any) w1) [o] (putDeps ops u o.after.toList a) w1) ∧ RelGoals P ops S a w r (i + 1)
def RelHold (u : Nat → Value) (w : World) : List Sp → Nat → Prop
  | [], _ => True
  | s :: r, i => s.holds (u i) w ∧ RelHold u w r (i + 1)
def relB (ops : Array Oper) (N : Nat) : Bool :=
  (List.range ops.size).all fun i => match ops[i]? with
    | none => false
    | some o =>
      (match o.dst with
        | none => false
        | some d => decide (d < N) && (List.range ops.size).all (fun j => j == i || dstOf ops j != some d)) &&
      (match o.op with
        | .select .. => false
        | _ => true) &&
      o.after.all (fun e => !Region.binds .any e || decide (e.on < i)) &&
      (o.looksAt ops).all (fun t => (List.range ops.size).all fun j => dstOf ops j != some t || o.after.any (fun e => Region.binds .any e && e.on == j) ||
        (match ops[j]? with
          | none => false
          | some oj => oj.after.any (fun e => Region.binds .any e && e.on == i)))
section
variable {ops : Array Oper} {N : Nat}
theorem relB_spec (h : relB ops N = true) {i : Nat} {o : Oper} (ho : ops[i]? = some o) :
    (∃ d, o.dst = some d ∧ d < N ∧ ∀ j, dstOf ops j = some d → j = i) ∧ (∀ cs b, o.op ≠ .select cs b) ∧ (∀ e ∈ o.after, Region.binds .any e = true → e.on < i) ∧
    (∀ t ∈ o.looksAt ops, ∀ j, dstOf ops j = some t → (∃ e ∈ o.after, Region.binds .any e = true ∧ e.on = j) ∨ (∃ oj, ops[j]? = some oj ∧ ∃ e ∈ oj.after, Region.binds .any e = true ∧ e.on = i)) := by
  have hi : i < ops.size := (Array.getElem?_eq_some_iff.1 ho).1
  have hlt : ∀ j t, dstOf ops j = some t → j < ops.size := fun j t hj => by
    rcases Nat.lt_or_ge j ops.size with h | h
    · exact h
    · simp [dstOf, Array.getElem?_eq_none h] at hj
  unfold relB at h
  rw [List.all_eq_true] at h
  have h1 := h i (List.mem_range.2 hi)
  rw [ho] at h1
  simp only [Bool.and_eq_true] at h1
  obtain ⟨⟨⟨h2, h3⟩, h4⟩, h5⟩ := h1
  refine ⟨?_, ?_, ?_, ?_⟩
  · cases hd : o.dst with
    | none => rw [hd] at h2; cases h2
    | some d =>
      rw [hd] at h2
      simp only [Bool.and_eq_true, decide_eq_true_eq] at h2
      refine ⟨d, rfl, h2.1, fun j hj => ?_⟩
      have := List.all_eq_true.1 h2.2 j (List.mem_range.2 (hlt j d hj))
      simp only [Bool.or_eq_true, beq_iff_eq, bne_iff_ne] at this
      exact this.resolve_right (fun hn => hn hj)
  · intro cs b hs
    rw [hs] at h3
    cases h3
  · intro e he hb
    have := Array.all_eq_true_iff_forall_mem.1 h4 e he
    simpa [hb] using this
  · intro t ht j hj
    have := List.all_eq_true.1 (List.all_eq_true.1 h5 t ht) j (List.mem_range.2 (hlt j t hj))
    simp only [Bool.or_eq_true, bne_iff_ne] at this
    rcases this with (h6 | h6) | h6
    · exact absurd hj h6
    · left
      rw [Array.any_eq_true'] at h6
      obtain ⟨e, he, h7⟩ := h6
      simp only [Bool.and_eq_true, beq_iff_eq] at h7
      exact ⟨e, he, h7.1, h7.2⟩
    · right
      cases hoj : ops[j]? with
      | none => rw [hoj] at h6; cases h6
      | some oj =>
        rw [hoj] at h6
        simp only at h6
        rw [Array.any_eq_true'] at h6
        obtain ⟨e, he, h7⟩ := h6
        simp only [Bool.and_eq_true, beq_iff_eq] at h7
        exact ⟨oj, rfl, e, he, h7.1, h7.2⟩
theorem put_size (a : Act) (d : Option Tmp) (v : Value) : (a.put d v).tmps.size = a.tmps.size := by cases d <;> simp [Act.put]
theorem put_defers (a : Act) (d : Option Tmp) (v : Value) : (a.put d v).defers = a.defers := by cases d <;> rfl
theorem put_get_ne (a : Act) {d : Option Tmp} (v : Value) {t : Tmp} (h : d ≠ some t) : (a.put d v).tmps[t]? = a.tmps[t]? := by
  cases d with
  | none => rfl
  | some d => simp only [Act.put]; rw [Array.getElem?_setIfInBounds_ne (fun e => h (by rw [e]))]
theorem put_get_eq (a : Act) (v : Value) {t : Tmp} (h : t < a.tmps.size) : (a.put (some t) v).tmps[t]? = some v := by
  simp only [Act.put]
  rw [Array.getElem?_setIfInBounds]
  simp [h]
theorem putDeps_size (u : Nat → Value) : ∀ (es : List Edge) (a : Act), (putDeps ops u es a).tmps.size = a.tmps.size ∧ (putDeps ops u es a).defers = a.defers
  | [], a => ⟨rfl, rfl⟩
  | e :: r, a => by
    unfold putDeps
    have := putDeps_size u r (if Region.binds .any e = true then a.put (dstOf ops e.on) (u e.on) else a)
    split at this
    · rename_i hb
      rw [if_pos hb]
      exact ⟨this.1.trans (put_size _ _ _), this.2.trans (put_defers _ _ _)⟩
    · rename_i hb
      rw [if_neg hb]
      exact this
theorem putDeps_miss (u : Nat → Value) {t : Tmp} : ∀ (es : List Edge) (a : Act), (∀ e ∈ es, Region.binds .any e = true → dstOf ops e.on ≠ some t) → (putDeps ops u es a).tmps[t]? = a.tmps[t]?
  | [], a, _ => rfl
  | e :: r, a, h => by
    unfold putDeps
    rw [putDeps_miss u r _ (fun e' he' => h e' (List.mem_cons_of_mem _ he'))]
    split
    · rename_i hb
      exact put_get_ne _ _ (h e (List.mem_cons_self ..) hb)
    · rfl
theorem putDeps_hit (u : Nat → Value) {t : Tmp} {j : Nat} (hj : ∀ i, dstOf ops i = some t → i = j) : ∀ (es : List Edge) (a : Act), t < a.tmps.size → (∃ e ∈ es, Region.binds .any e = true ∧ dstOf ops e.on = some t) → (putDeps ops u es a).tmps[t]? = some (u j)
  | [], a, _, ⟨_, he, _⟩ => by cases he
  | e :: r, a, ht, ⟨e', he', hb', hd'⟩ => by
    unfold putDeps
    by_cases hex : ∃ e ∈ r, Region.binds .any e = true ∧ dstOf ops e.on = some t
    · refine putDeps_hit u hj r _ ?_ hex
      split
      · rw [put_size]; exact ht
      · exact ht
    · rw [putDeps_miss u r _ (fun x hx hb hd => hex ⟨x, hx, hb, hd⟩)]
      rcases List.mem_cons.1 he' with rfl | he'
      · rw [if_pos hb', hd', hj _ hd']
        exact put_get_eq _ _ ht
      · exact absurd ⟨e', he', hb', hd'⟩ hex
theorem putAll_size (u : Nat → Value) : ∀ (l : List Oper) (i : Nat) (a : Act), (putAll u l i a).tmps.size = a.tmps.size ∧ (putAll u l i a).defers = a.defers
  | [], _, a => ⟨rfl, rfl⟩
  | o :: r, i, a => by
    unfold putAll
    have := putAll_size u r (i + 1) (a.put o.dst (u i))
    exact ⟨this.1.trans (put_size _ _ _), this.2.trans (put_defers _ _ _)⟩
theorem putAll_miss (u : Nat → Value) {t : Tmp} : ∀ (l : List Oper) (i : Nat) (a : Act), (∀ o ∈ l, o.dst ≠ some t) → (putAll u l i a).tmps[t]? = a.tmps[t]?
  | [], _, a, _ => rfl
  | o :: r, i, a, h => by
    unfold putAll
    rw [putAll_miss u r (i + 1) _ (fun x hx => h x (List.mem_cons_of_mem _ hx))]
    exact put_get_ne _ _ (h o (List.mem_cons_self ..))
theorem putAll_hit (u : Nat → Value) {t : Tmp} : ∀ (l : List Oper) (i : Nat) (a : Act) (j : Nat) (o : Oper), t < a.tmps.size → l[j]? = some o → o.dst = some t → (∀ k x, l[k]? = some x → x.dst = some t → k = j) → (putAll u l i a).tmps[t]? = some (u (i + j))
  | [], _, _, _, _, _, h, _, _ => by simp at h
  | x :: r, i, a, 0, o, ht, h, hd, hu => by
    unfold putAll
    simp only [List.getElem?_cons_zero, Option.some.injEq] at h
    subst h
    rw [putAll_miss u r (i + 1) _ (fun y hy hyd => by
      obtain ⟨k, hk, rfl⟩ := List.getElem_of_mem hy
      have := hu (k + 1) r[k] (by simp [hk]) hyd
      omega), hd]
    exact put_get_eq _ _ ht
  | x :: r, i, a, j + 1, o, ht, h, hd, hu => by
    unfold putAll
    rw [putAll_hit u r (i + 1) _ j o (by rw [put_size]; exact ht) (by simpa using h) hd (fun k y hk hy => by have := hu (k + 1) y (by simpa using hk) hy; omega)]
    congr 2
    omega
end
section
variable {P : Program} {S : List Sp} {a : Act} {w : World} {l : List Oper}
theorem RelGoals.at {ops : Array Oper} : ∀ (l : List Oper) (i : Nat), RelGoals P ops S a w l i → ∀ (j : Nat) (o : Oper), l[j]? = some o → ∀ (u : Nat → Value) (w1 : World), Below w.heap.size w w1 → Deps S u w1 o.after.toList →
    wpList P ops (RelEnd a.defers o.dst (S.getD (i + j) Sp.any) w1) [o] (putDeps ops u o.after.toList a) w1
  | [], _, _, _, _, h => by simp at h
  | x :: r, i, hg, 0, o, h => by
    simp only [List.getElem?_cons_zero, Option.some.injEq] at h
    subst h
    exact hg.1
  | x :: r, i, hg, j + 1, o, h => by
    have := RelGoals.at r (i + 1) hg.2 j o (by simpa using h)
    rw [show i + 1 + j = i + (j + 1) by omega] at this
    exact this
theorem Deps.of {u : Nat → Value} {w1 : World} : ∀ es : List Edge, (∀ e ∈ es, Region.binds .any e = true → (S.getD e.on Sp.any).holds (u e.on) w1) → Deps S u w1 es
  | [], _ => trivial
  | e :: r, h => ⟨h e (List.mem_cons_self ..), Deps.of r (fun x hx => h x (List.mem_cons_of_mem _ hx))⟩
theorem RelHold.of {u : Nat → Value} {w1 : World} : ∀ (S : List Sp) (i : Nat), (∀ (j : Nat) (s : Sp), S[j]? = some s → s.holds (u (i + j)) w1) → RelHold u w1 S i
  | [], _, _ => trivial
  | s :: r, i, h => ⟨by simpa using h 0 s (by simp), RelHold.of r (i + 1) (fun j x hx => by have := h (j + 1) x (by simpa using hx); rwa [show i + (j + 1) = i + 1 + j by omega] at this)⟩
def RelInv (l : List Oper) (S : List Sp) (a : Act) (w : World) (listed : Array Bool) (a' : Act) (w' : World) : Prop :=
  Below w.heap.size w w' ∧ a'.defers = a.defers ∧ a'.tmps.size = a.tmps.size ∧
  (∀ j o, l[j]? = some o → listed.getD j false = true → ∀ e ∈ o.after, Region.binds .any e = true → listed.getD e.on false = true) ∧
  (∀ t, (∀ j o, l[j]? = some o → o.dst = some t → listed.getD j false = false) → a'.tmps[t]? = a.tmps[t]?) ∧
  ∃ u : Nat → Value, ∀ j o t, l[j]? = some o → o.dst = some t → listed.getD j false = true → a'.tmps[t]? = some (u j) ∧ (S.getD j Sp.any).holds (u j) w'
/-- The goals from operation s on. -/
def Hop (P : Program) (l : List Oper) (S : List Sp) (a : Act) (w : World) (s : Nat) : Prop :=
  ∀ (i : Nat) (o : Oper), l[i]? = some o → s ≤ i → ∀ (u : Nat → Value) (w1 : World), Below w.heap.size w w1 → Deps S u w1 o.after.toList →
    wpList P l.toArray (RelEnd a.defers o.dst (S.getD i Sp.any) w1) [o] (putDeps l.toArray u o.after.toList a) w1
theorem Hop.of {s : Nat} (h : RelGoals P l.toArray S a w (l.drop s) s) : Hop P l S a w s := fun i o ho hi u w1 hb hd => by
  have := RelGoals.at (l.drop s) s h (i - s) o (by rw [List.getElem?_drop, show s + (i - s) = i by omega]; exact ho) u w1 hb hd
  rw [show s + (i - s) = i by omega] at this
  exact this
theorem getD_set_false {listed : Array Bool} {i j : Nat} (h : i ≠ j) : (listed.setIfInBounds i true).getD j false = listed.getD j false := getD_set_ne false h
theorem eval_agree {b b' : Act} {ops : Array Oper} {o : Oper} (h : ∀ t ∈ o.looksAt ops, b.tmps[t]? = b'.tmps[t]?) : ∀ x ∈ o.op.operands, b.eval x = b'.eval x := by
  intro x hx
  cases x with
  | tmp t =>
    have ht : t ∈ o.looksAt ops := List.mem_append_left _ (List.mem_filterMap.2 ⟨.tmp t, by simpa using hx, rfl⟩)
    show b.tmps.getD t undef = b'.tmps.getD t undef
    rw [Array.getD_eq_getD_getElem?, Array.getD_eq_getD_getElem?, h t ht]
  | _ => rfl
theorem wanted_agree {b b' : Act} {ops : Array Oper} {o : Oper} (h : ∀ t ∈ o.looksAt ops, b.tmps[t]? = b'.tmps[t]?) : Region.wanted o (yielded ops b.tmps) = Region.wanted o (yielded ops b'.tmps) := by
  unfold Region.wanted
  cases hg : o.guard with
  | none => rfl
  | some gw =>
    obtain ⟨g, want⟩ := gw
    have hy : yielded ops b.tmps g = yielded ops b'.tmps g := by
      unfold yielded
      cases ht : (ops[g]?).bind (·.dst) with
      | none => rfl
      | some t =>
        have := h t (by simp [Oper.looksAt, hg, ht])
        simp only [Option.bind_some, this]
    simp only [hy]
theorem rel_step {Q : Exit → Act → World → Prop} {N : Nat} (hB : relB l.toArray N = true) (ha : a.tmps.size = N) {s : Nat} (hop : Hop P l S a w s) {listed : Array Bool} (hs : ∀ j, j < s → listed.getD j false = true) (hsz : listed.size = l.length) {a' : Act} {w' : World} (inv : RelInv l S a w listed a' w') {i : Nat} (hr : i ∈ Region.ready .any l.toArray listed) :
    wpOp P l.toArray Q i (RelInv l S a w (listed.setIfInBounds i true)) a' w' := by
  obtain ⟨hun, o, ho, hall⟩ := mem_ready.1 hr
  have hol : l[i]? = some o := by simpa using ho
  obtain ⟨⟨d, hd, hdN, huniq⟩, hsel, _, hlook⟩ := relB_spec hB ho
  obtain ⟨hbel, hdef, hsize, hclosed, hold, u, hu⟩ := inv
  have hil : i < l.length := by
    rcases Nat.lt_or_ge i l.length with h | h
    · exact h
    · simp [List.getElem?_eq_none h] at hol
  have hunf : listed.getD i false = false := by
    have : i < listed.size := by omega
    simpa [this] using hun
  have dst_at : ∀ j t, dstOf l.toArray j = some t → ∃ oj, l[j]? = some oj ∧ oj.dst = some t := fun j t h => by
    unfold dstOf at h
    rw [List.getElem?_toArray] at h
    cases hj : l[j]? with
    | none => rw [hj] at h; cases h
    | some oj => rw [hj] at h; exact ⟨oj, rfl, h⟩
  have dst_of : ∀ j oj t, l[j]? = some oj → oj.dst = some t → dstOf l.toArray j = some t := fun j oj t h h' => by
    unfold dstOf
    rw [List.getElem?_toArray, h]; exact h'
  have hdeps : Deps S u w' o.after.toList := Deps.of _ (fun e he hb => by
    have he' : e ∈ o.after := by simpa using he
    have hl := hall e he' hb
    have hlt : e.on < l.length := by
      have := (relB_spec hB ho).2.2.1 e he' hb
      omega
    obtain ⟨⟨t, ht, _⟩, _⟩ := relB_spec hB (i := e.on) (o := l[e.on]) (by simp [hlt])
    exact (hu e.on l[e.on] t (by simp [hlt]) ht hl).2)
  have hsi : s ≤ i := by
    rcases Nat.lt_or_ge i s with h | h
    · rw [hs i h] at hunf; cases hunf
    · exact h
  have hgoal := hop i o hol hsi u w' hbel hdeps
  have hF := putDeps_size (ops := l.toArray) u o.after.toList a
  generalize hFe : putDeps l.toArray u o.after.toList a = F at hgoal hF
  have agree : ∀ t ∈ o.looksAt l.toArray, F.tmps[t]? = a'.tmps[t]? := by
    intro t ht
    by_cases hex : ∃ e ∈ o.after.toList, Region.binds .any e = true ∧ dstOf l.toArray e.on = some t
    · obtain ⟨e, he, hb, hde⟩ := hex
      obtain ⟨oj, hj, hdj⟩ := dst_at _ _ hde
      have hw := (hu e.on oj t hj hdj (hall e (by simpa using he) hb)).1
      obtain ⟨⟨d', hd', hdN', huniq'⟩, _⟩ := relB_spec hB (i := e.on) (o := oj) (by simpa using hj)
      have : d' = t := by rw [hd'] at hdj; injection hdj
      subst this
      rw [hw, ← hFe]
      exact putDeps_hit u huniq' _ _ (by rw [ha]; exact hdN') ⟨e, he, hb, hde⟩
    · rw [← hFe, putDeps_miss u _ _ (fun e he hb hde => hex ⟨e, he, hb, hde⟩)]
      symm
      refine hold t (fun j oj hj hdj => ?_)
      cases hlj : listed.getD j false
      · rfl
      · rcases hlook t ht j (dst_of j oj t hj hdj) with ⟨e, he, hb, hej⟩ | ⟨oj', hoj', e, he, hb, hei⟩
        · exact absurd ⟨e, by simpa using he, hb, by rw [hej]; exact dst_of j oj t hj hdj⟩ hex
        · have : oj' = oj := by
            rw [List.getElem?_toArray, hj] at hoj'
            injection hoj' with hoj'
            exact hoj'.symm
          subst this
          have := hclosed j oj' hj hlj e he hb
          rw [hei, hunf] at this
          cases this
  have heval : execOp F.eval o = execOp a'.eval o := execOp_congr o hsel (eval_agree agree)
  have hwant := wanted_agree agree
  have fin : ∀ v w'', RelEnd a.defers o.dst (S.getD i Sp.any) w' .normal (F.put o.dst v) w'' → RelInv l S a w (listed.setIfInBounds i true) (a'.put o.dst v) w'' := by
    rintro v w'' ⟨_, _, hb2, hs⟩
    have hs' := hs d hd
    rw [hd] at hs'
    have hg : (F.put (some d) v).tmps.getD d undef = v := by
      have := put_get_eq F v (t := d) (by rw [hF.1, ha]; exact hdN)
      rw [Array.getD_eq_getD_getElem?, this]; rfl
    rw [hg] at hs'
    refine ⟨hbel.trans (hb2.mono hbel.size), by rw [put_defers, hdef], by rw [put_size, hsize], ?_, ?_, fun j => if j = i then v else u j, ?_⟩
    · intro j oj hj hlj e he hb
      by_cases hji : i = j
      · subst hji
        rw [hol] at hj
        injection hj with hj
        subst hj
        exact getD_set_true (hall e he hb)
      · rw [getD_set_false hji] at hlj
        exact getD_set_true (hclosed j oj hj hlj e he hb)
    · intro t ht
      have hne : o.dst ≠ some t := fun he => by
        have := ht i o hol he
        rw [show (listed.setIfInBounds i true).getD i false = true by simp [hsz, hil]] at this
        cases this
      rw [put_get_ne _ _ hne]
      refine hold t (fun j oj hj hdj => ?_)
      have hji : i ≠ j := fun e => by
        subst e
        rw [hol] at hj
        injection hj with hj
        subst hj
        exact hne hdj
      have := ht j oj hj hdj
      rwa [getD_set_false hji] at this
    · intro j oj t hj hdj hlj
      by_cases hji : j = i
      · subst hji
        rw [hol] at hj
        injection hj with hj
        subst hj
        rw [hd] at hdj
        injection hdj with hdj
        subst hdj
        simp only [if_true]
        rw [hd]
        exact ⟨put_get_eq _ _ (by rw [hsize, ha]; exact hdN), hs'⟩
      · rw [getD_set_false (Ne.symm hji)] at hlj
        simp only [if_neg hji]
        have hne : o.dst ≠ some t := fun he => by
          rw [hd] at he
          injection he with he
          subst he
          exact hji (huniq j (dst_of j oj d hj hdj))
        obtain ⟨h1, h2⟩ := hu j oj t hj hdj hlj
        exact ⟨(put_get_ne _ _ hne).trans h1, (S.getD j Sp.any).stays _ _ _ h2 hb2⟩
  have nolets : ¬ LetsOut (RelEnd a.defers o.dst (S.getD i Sp.any) w') := by
    rintro ⟨_, _, h, _⟩
    cases h
  unfold wpOp
  simp only [ho]
  simp only [wpList, hwant] at hgoal
  by_cases hw : Region.wanted o (yielded l.toArray a'.tmps) = true
  · rw [if_pos hw] at hgoal ⊢
    rcases hgoal with h | ⟨_, h⟩
    · left
      unfold Oper.wp at h ⊢
      rw [heval] at h
      generalize (execOp a'.eval o).run P w' = r at h ⊢
      cases r with
      | ok n w'' =>
        cases n <;> simp only [Oper.upon] at h ⊢
        case value u => exact fin _ _ h
        case skip => exact fin _ _ h
        case defer x =>
          exfalso
          obtain ⟨_, h2, _⟩ := h
          rw [put_defers] at h2
          have := congrArg List.length h2
          simp only [List.length_cons, hF.2] at this
          omega
        case enter f args =>
          refine Calls.mono h fun e w'' he => ?_
          cases e with
          | returned u => exact fin _ _ he
          | panicked c => cases he.1
          | outgrown => exact absurd he nolets
        case row row args => exact Rows.mono h fun u w'' he => fin _ _ he
      | halt x w'' =>
        cases x <;> simp only [Oper.upon] at h ⊢
        case panic u => cases h.1
    · exact absurd h nolets
  · rw [if_neg hw] at hgoal ⊢
    exact fin _ _ hgoal
theorem rel_any {Q : Exit → Act → World → Prop} {N : Nat} (hB : relB l.toArray N = true) (ha : a.tmps.size = N) (hS : S.length = l.length) {s : Nat} (hop : Hop P l S a w s)
    (hend : ∀ u w1, Below w.heap.size w w1 → RelHold u w1 S 0 → Q .normal (putAll u l 0 a) w1) :
    ∀ (f : Nat) (listed : Array Bool) (a' : Act) (w' : World), (∀ j, j < s → listed.getD j false = true) → listed.size = l.length → listed.toList.count false = f → RelInv l S a w listed a' w' → wpAny P .any l.toArray Q f listed a' w'
  | 0, listed, a', w', hs, hsz, hc, inv => by
    have hall : ∀ j, j < l.length → listed.getD j false = true := fun j hj => by
      have h1 : false ∉ listed.toList := List.count_eq_zero.1 hc
      have hlt : j < listed.size := by omega
      cases hb : listed[j]
      · exact absurd (by rw [← hb]; simp) h1
      · simp [hlt, hb]
    have hready : Region.ready .any l.toArray listed = [] := by
      rw [List.eq_nil_iff_forall_not_mem]
      intro j hj
      obtain ⟨h0, o, ho, _⟩ := mem_ready.1 hj
      have hj' : j < l.length := by
        rcases Nat.lt_or_ge j l.length with h | h
        · exact h
        · simp [List.getElem?_eq_none h] at ho
      have := hall j hj'
      have hlt : j < listed.size := by omega
      simp [hlt] at this h0
      rw [this] at h0
      cases h0
    refine ⟨hready, ?_⟩
    obtain ⟨hbel, hdef, hsize, _, hold, u, hu⟩ := inv
    have e : a' = putAll u l 0 a := by
      have h1 := putAll_size u l 0 a
      obtain ⟨tm, df⟩ := a'
      generalize hFe : putAll u l 0 a = F at h1
      obtain ⟨tm2, df2⟩ := F
      simp only at hdef hsize h1
      have : tm = tm2 := by
        apply Array.ext_getElem?
        intro t
        have hF2 : tm2[t]? = (putAll u l 0 a).tmps[t]? := by rw [hFe]
        rw [hF2]
        by_cases hex : ∃ (j : Nat) (o : Oper), l[j]? = some o ∧ o.dst = some t
        · obtain ⟨j, o, hj, hd⟩ := hex
          obtain ⟨⟨d, hd', hdN, huniq⟩, _⟩ := relB_spec hB (i := j) (o := o) (by simpa using hj)
          have hdt : d = t := by rw [hd'] at hd; injection hd
          subst hdt
          have hj' : j < l.length := by
            rcases Nat.lt_or_ge j l.length with h | h
            · exact h
            · simp [List.getElem?_eq_none h] at hj
          have h2 := putAll_hit u l 0 a j o (t := d) (by rw [ha]; exact hdN) hj hd (fun k x hk hx => huniq k (by unfold dstOf; rw [List.getElem?_toArray, hk]; exact hx))
          rw [Nat.zero_add] at h2
          rw [h2]
          exact (hu j o d hj hd (hall j hj')).1
        · rw [putAll_miss u l 0 a (fun (o : Oper) ho hd => by
            obtain ⟨j, hj, rfl⟩ := List.getElem_of_mem ho
            exact hex ⟨j, l[j], by simp [hj], hd⟩)]
          exact hold t (fun j o hj hd => absurd ⟨j, o, hj, hd⟩ hex)
      rw [this, hdef, h1.2]
    rw [e]
    refine hend u w' hbel (RelHold.of S 0 (fun j s hj => ?_))
    have hj' : j < S.length := by
      rcases Nat.lt_or_ge j S.length with h | h
      · exact h
      · simp [List.getElem?_eq_none h] at hj
    have hjl : j < l.length := by omega
    obtain ⟨⟨d, hd', _⟩, _⟩ := relB_spec hB (i := j) (o := l[j]) (by simp [hjl])
    have := (hu j l[j] d (by simp [hjl]) hd' (hall j hjl)).2
    rw [Nat.zero_add]
    rw [List.getD_eq_getElem?_getD, hj] at this
    exact this
  | f + 1, listed, a', w', hs, hsz, hc, inv => by
    refine ⟨fun h0 => ?_, fun i hi => ?_⟩
    · exfalso
      have hall : ∀ j, j < l.length → listed.getD j false = true := by
        intro j
        induction j using Nat.strongRecOn with
        | ind j ih =>
          intro hj
          cases hlj : listed.getD j false
          · exfalso
            have hlt : j < listed.size := by omega
            have : j ∈ Region.ready .any l.toArray listed := mem_ready.2 ⟨by simpa [hlt] using hlj, l[j], by simp [hj], fun e he hb => by
              have := (relB_spec hB (i := j) (o := l[j]) (by simp [hj])).2.2.1 e he hb
              exact ih e.on this (by omega)⟩
            rw [h0] at this
            cases this
          · rfl
      have : listed.toList.count false = 0 := List.count_eq_zero.2 (fun hm => by
        obtain ⟨j, hj, he⟩ := List.getElem_of_mem hm
        have hj' : j < listed.size := by simpa using hj
        have := hall j (by omega)
        simp [hj'] at this
        simp [this] at he)
      omega
    · refine wpOp_mono (fun a'' w'' h => ?_) (rel_step hB ha hop hs hsz inv hi)
      refine rel_any hB ha hS hop hend f _ a'' w'' (fun j hj => getD_set_true (hs j hj)) (by simpa using hsz) ?_ h
      obtain ⟨hun, o, ho, _⟩ := mem_ready.1 hi
      have hil : i < listed.size := by
        have : i < l.length := by
          rcases Nat.lt_or_ge i l.length with h | h
          · exact h
          · simp [List.getElem?_eq_none h] at ho
        omega
      have hun' : listed[i] = false := by simpa [hil] using hun
      rw [Array.toList_setIfInBounds, List.count_set (by simpa using hil)]
      simp [hun', hc]
end
/-- Each operation by itself; no order is looked at. -/
theorem wp_region_rel {P : Program} {id : Nat} {Q : Exit → Act → World → Prop} {a : Act} {w : World} {l : List Oper} (S : List Sp) (N : Nat) (hm : P.follows .mixedOrders = true) (hB : relB l.toArray N = true) (ha : a.tmps.size = N) (hS : S.length = l.length)
    (hop : RelGoals P l.toArray S a w l 0) (hend : ∀ u w1, Below w.heap.size w w1 → RelHold u w1 S 0 → Q .normal (putAll u l 0 a) w1) : (Code.region id l.toArray true).wp P Q a w := by
  refine wp_region_any hm ?_
  have := rel_any (Q := Q) hB ha hS (Hop.of (s := 0) hop) hend l.length (Array.replicate l.length false) a { w with drawn := w.drawn + 1 } (fun j hj => by omega) (by simp) (by simp)
    ⟨(Below.refl _ _).drew, rfl, rfl, fun j o _ hl => (by rw [getD_replicate_false] at hl; cases hl), fun _ _ => rfl, fun _ => undef, fun j o t _ _ hl => (by rw [getD_replicate_false] at hl; cases hl)⟩
  simpa using this
end Go.Proofs.YtldoedmclfbgpaaDoor
namespace Go.Proofs.YtldoedmclfbgpaaDoor
open Go.RowKit

def upd {α : Type} (f : Nat → α) (i : Nat) (x : α) : Nat → α := fun j => if j = i then x else f j
theorem upd_same {α : Type} (f : Nat → α) (i : Nat) (x : α) : upd f i x i = x := if_pos rfl
theorem upd_other {α : Type} (f : Nat → α) {i j : Nat} (x : α) (h : j ≠ i) : upd f i x j = f j := if_neg h
/-- What an operation hands back: the value in its slot. -/
def given (d : Option Tmp) (a : Act) : Value := match d with | some t => a.tmps.getD t undef | none => undef
def EndM (ds : List Deferred) (d : Option Tmp) (F : Value → World → Prop) (e : Exit) (a' : Act) (w' : World) : Prop := e = .normal ∧ a'.defers = ds ∧ F (given d a') w'
theorem EndM.mk {ds : List Deferred} {d : Tmp} {F : Value → World → Prop} {a' : Act} {w' : World} (h1 : a'.defers = ds) (h2 : F (a'.tmps.getD d undef) w') : EndM ds (some d) F .normal a' w' := ⟨rfl, h1, h2⟩
theorem EndM.mk0 {ds : List Deferred} {F : Value → World → Prop} {a' : Act} {w' : World} (h1 : a'.defers = ds) (h2 : F undef w') : EndM ds none F .normal a' w' := ⟨rfl, h1, h2⟩
def relBm (ops : Array Oper) (N : Nat) : Bool :=
  (List.range ops.size).all fun i => match ops[i]? with
    | none => false
    | some o =>
      (match o.dst with
        | none => true
        | some d => decide (d < N) && (List.range ops.size).all (fun j => j == i || dstOf ops j != some d)) &&
      (match o.op with
        | .select .. => false
        | _ => true) &&
      o.after.all (fun e => !Region.binds .any e || decide (e.on < i)) &&
      (o.looksAt ops).all (fun t => (List.range ops.size).all fun j => dstOf ops j != some t || o.after.any (fun e => Region.binds .any e && e.on == j) ||
        (match ops[j]? with
          | none => false
          | some oj => oj.after.any (fun e => Region.binds .any e && e.on == i)))
section
variable {ops : Array Oper} {N : Nat}
theorem relBm_spec (h : relBm ops N = true) {i : Nat} {o : Oper} (ho : ops[i]? = some o) :
    (∀ d, o.dst = some d → d < N ∧ ∀ j, dstOf ops j = some d → j = i) ∧ (∀ cs b, o.op ≠ .select cs b) ∧ (∀ e ∈ o.after, Region.binds .any e = true → e.on < i) ∧
    (∀ t ∈ o.looksAt ops, ∀ j, dstOf ops j = some t → (∃ e ∈ o.after, Region.binds .any e = true ∧ e.on = j) ∨ (∃ oj, ops[j]? = some oj ∧ ∃ e ∈ oj.after, Region.binds .any e = true ∧ e.on = i)) := by
  have hi : i < ops.size := (Array.getElem?_eq_some_iff.1 ho).1
  have hlt : ∀ j t, dstOf ops j = some t → j < ops.size := fun j t hj => by
    rcases Nat.lt_or_ge j ops.size with h | h
    · exact h
    · simp [dstOf, Array.getElem?_eq_none h] at hj
  unfold relBm at h
  rw [List.all_eq_true] at h
  have h1 := h i (List.mem_range.2 hi)
  rw [ho] at h1
  simp only [Bool.and_eq_true] at h1
  obtain ⟨⟨⟨h2, h3⟩, h4⟩, h5⟩ := h1
  refine ⟨?_, ?_, ?_, ?_⟩
  · intro d hd
    rw [hd] at h2
    simp only [Bool.and_eq_true, decide_eq_true_eq] at h2
    refine ⟨h2.1, fun j hj => ?_⟩
    have := List.all_eq_true.1 h2.2 j (List.mem_range.2 (hlt j d hj))
    simp only [Bool.or_eq_true, beq_iff_eq, bne_iff_ne] at this
    exact this.resolve_right (fun hn => hn hj)
  · intro cs b hs
    rw [hs] at h3
    cases h3
  · intro e he hb
    have := Array.all_eq_true_iff_forall_mem.1 h4 e he
    simpa [hb] using this
  · intro t ht j hj
    have := List.all_eq_true.1 (List.all_eq_true.1 h5 t ht) j (List.mem_range.2 (hlt j t hj))
    simp only [Bool.or_eq_true, bne_iff_ne] at this
    rcases this with (h6 | h6) | h6
    · exact absurd hj h6
    · left
      rw [Array.any_eq_true'] at h6
      obtain ⟨e, he, h7⟩ := h6
      simp only [Bool.and_eq_true, beq_iff_eq] at h7
      exact ⟨e, he, h7.1, h7.2⟩
    · right
      cases hoj : ops[j]? with
      | none => rw [hoj] at h6; cases h6
      | some oj =>
        rw [hoj] at h6
        simp only at h6
        rw [Array.any_eq_true'] at h6
        obtain ⟨e, he, h7⟩ := h6
        simp only [Bool.and_eq_true, beq_iff_eq] at h7
        exact ⟨oj, rfl, e, he, h7.1, h7.2⟩
end
/-- What is told of the operations that one waits for. -/
def DepsM (V : Nat → Value → Prop) (L : Nat → Bool) (u : Nat → Value) : List Edge → Prop
  | [] => True
  | e :: r => (Region.binds .any e = true → L e.on = true ∧ V e.on (u e.on)) ∧ DepsM V L u r
theorem DepsM.of {V : Nat → Value → Prop} {L : Nat → Bool} {u : Nat → Value} : ∀ es : List Edge, (∀ e ∈ es, Region.binds .any e = true → L e.on = true ∧ V e.on (u e.on)) → DepsM V L u es
  | [], _ => trivial
  | e :: r, h => ⟨h e (List.mem_cons_self ..), DepsM.of r (fun x hx => h x (List.mem_cons_of_mem _ hx))⟩
/-- The goal of one operation. -/
def GoalM (P : Program) (ops : Array Oper) (V : Nat → Value → Prop) (M : (Nat → Bool) → (Nat → Value) → World → Prop) (a : Act) (i : Nat) (o : Oper) : Prop :=
  ∀ (L : Nat → Bool) (u : Nat → Value) (w1 : World), M L u w1 → L i = false → DepsM V L u o.after.toList →
    wpList P ops (EndM a.defers o.dst (fun v w2 => V i v ∧ M (upd L i true) (upd u i v) w2)) [o] (putDeps ops u o.after.toList a) w1
def GoalsM (P : Program) (ops : Array Oper) (V : Nat → Value → Prop) (M : (Nat → Bool) → (Nat → Value) → World → Prop) (a : Act) : List Oper → Nat → Prop
  | [], _ => True
  | o :: r, i => GoalM P ops V M a i o ∧ GoalsM P ops V M a r (i + 1)
section
variable {P : Program} {V : Nat → Value → Prop} {M : (Nat → Bool) → (Nat → Value) → World → Prop} {a : Act} {l : List Oper}
theorem GoalsM.at {ops : Array Oper} : ∀ (l : List Oper) (i : Nat), GoalsM P ops V M a l i → ∀ (j : Nat) (o : Oper), l[j]? = some o → GoalM P ops V M a (i + j) o
  | [], _, _, _, _, h => by simp at h
  | x :: r, i, hg, 0, o, h => by
    simp only [List.getElem?_cons_zero, Option.some.injEq] at h
    subst h
    exact hg.1
  | x :: r, i, hg, j + 1, o, h => by
    have := GoalsM.at r (i + 1) hg.2 j o (by simpa using h)
    rw [show i + 1 + j = i + (j + 1) by omega] at this
    exact this
def InvM (V : Nat → Value → Prop) (M : (Nat → Bool) → (Nat → Value) → World → Prop) (l : List Oper) (a : Act) (listed : Array Bool) (a' : Act) (w' : World) : Prop :=
  a'.defers = a.defers ∧ a'.tmps.size = a.tmps.size ∧
  (∀ j o, l[j]? = some o → listed.getD j false = true → ∀ e ∈ o.after, Region.binds .any e = true → listed.getD e.on false = true) ∧
  (∀ t, (∀ j o, l[j]? = some o → o.dst = some t → listed.getD j false = false) → a'.tmps[t]? = a.tmps[t]?) ∧
  ∃ u : Nat → Value, (∀ j o t, l[j]? = some o → o.dst = some t → listed.getD j false = true → a'.tmps[t]? = some (u j)) ∧ (∀ j, j < l.length → listed.getD j false = true → V j (u j)) ∧ M (fun j => listed.getD j false) u w'
theorem relM_step {Q : Exit → Act → World → Prop} {N : Nat} (hB : relBm l.toArray N = true) (ha : a.tmps.size = N) (hop : GoalsM P l.toArray V M a l 0) {listed : Array Bool} (hsz : listed.size = l.length) {a' : Act} {w' : World} (inv : InvM V M l a listed a' w') {i : Nat} (hr : i ∈ Region.ready .any l.toArray listed) :
    wpOp P l.toArray Q i (InvM V M l a (listed.setIfInBounds i true)) a' w' := by
  obtain ⟨hun, o, ho, hall⟩ := mem_ready.1 hr
  have hol : l[i]? = some o := by simpa using ho
  obtain ⟨hdu, hsel, _, hlook⟩ := relBm_spec hB ho
  obtain ⟨hdef, hsize, hclosed, hold, u, hu, hv, hM⟩ := inv
  have hil : i < l.length := by
    rcases Nat.lt_or_ge i l.length with h | h
    · exact h
    · simp [List.getElem?_eq_none h] at hol
  have hunf : listed.getD i false = false := by
    have : i < listed.size := by omega
    simpa [this] using hun
  have dst_at : ∀ j t, dstOf l.toArray j = some t → ∃ oj, l[j]? = some oj ∧ oj.dst = some t := fun j t h => by
    unfold dstOf at h
    rw [List.getElem?_toArray] at h
    cases hj : l[j]? with
    | none => rw [hj] at h; cases h
    | some oj => rw [hj] at h; exact ⟨oj, rfl, h⟩
  have dst_of : ∀ j oj t, l[j]? = some oj → oj.dst = some t → dstOf l.toArray j = some t := fun j oj t h h' => by
    unfold dstOf
    rw [List.getElem?_toArray, h]; exact h'
  have hdeps : DepsM V (fun j => listed.getD j false) u o.after.toList := DepsM.of _ (fun e he hb => by
    have he' : e ∈ o.after := by simpa using he
    have hl := hall e he' hb
    have hlt : e.on < l.length := by
      have := (relBm_spec hB ho).2.2.1 e he' hb
      omega
    exact ⟨hl, hv e.on hlt hl⟩)
  have hgoal0 := GoalsM.at l 0 hop i o hol
  rw [Nat.zero_add] at hgoal0
  have hgoal := hgoal0 (fun j => listed.getD j false) u w' hM hunf hdeps
  have hF := putDeps_size (ops := l.toArray) u o.after.toList a
  generalize hFe : putDeps l.toArray u o.after.toList a = F at hgoal hF
  have agree : ∀ t ∈ o.looksAt l.toArray, F.tmps[t]? = a'.tmps[t]? := by
    intro t ht
    by_cases hex : ∃ e ∈ o.after.toList, Region.binds .any e = true ∧ dstOf l.toArray e.on = some t
    · obtain ⟨e, he, hb, hde⟩ := hex
      obtain ⟨oj, hj, hdj⟩ := dst_at _ _ hde
      have hw := hu e.on oj t hj hdj (hall e (by simpa using he) hb)
      obtain ⟨hdN', huniq'⟩ := (relBm_spec hB (i := e.on) (o := oj) (by simpa using hj)).1 t hdj
      rw [hw, ← hFe]
      exact putDeps_hit u huniq' _ _ (by rw [ha]; exact hdN') ⟨e, he, hb, hde⟩
    · rw [← hFe, putDeps_miss u _ _ (fun e he hb hde => hex ⟨e, he, hb, hde⟩)]
      symm
      refine hold t (fun j oj hj hdj => ?_)
      cases hlj : listed.getD j false
      · rfl
      · rcases hlook t ht j (dst_of j oj t hj hdj) with ⟨e, he, hb, hej⟩ | ⟨oj', hoj', e, he, hb, hei⟩
        · exact absurd ⟨e, by simpa using he, hb, by rw [hej]; exact dst_of j oj t hj hdj⟩ hex
        · have : oj' = oj := by
            rw [List.getElem?_toArray, hj] at hoj'
            injection hoj' with hoj'
            exact hoj'.symm
          subst this
          have := hclosed j oj' hj hlj e he hb
          rw [hei, hunf] at this
          cases this
  have heval : execOp F.eval o = execOp a'.eval o := execOp_congr o hsel (eval_agree agree)
  have hwant := wanted_agree agree
  have hL : (fun j => (listed.setIfInBounds i true).getD j false) = upd (fun j => listed.getD j false) i true := by
    funext j
    by_cases hji : j = i
    · subst hji
      rw [upd_same]
      simp [hsz, hil]
    · rw [upd_other _ _ hji]
      exact getD_set_false (Ne.symm hji)
  have fin : ∀ v w'', EndM a.defers o.dst (fun v w2 => V i v ∧ M (upd (fun j => listed.getD j false) i true) (upd u i v) w2) .normal (F.put o.dst v) w'' → InvM V M l a (listed.setIfInBounds i true) (a'.put o.dst v) w'' := by
    rintro v w'' ⟨_, _, hs1, hs2⟩
    refine ⟨by rw [put_defers, hdef], by rw [put_size, hsize], ?_, ?_, upd u i (given o.dst (F.put o.dst v)), ?_, ?_, by rw [hL]; exact hs2⟩
    · intro j oj hj hlj e he hb
      by_cases hji : i = j
      · subst hji
        rw [hol] at hj
        injection hj with hj
        subst hj
        exact getD_set_true (hall e he hb)
      · rw [getD_set_false hji] at hlj
        exact getD_set_true (hclosed j oj hj hlj e he hb)
    · intro t ht
      have hne : o.dst ≠ some t := fun he => by
        have := ht i o hol he
        rw [show (listed.setIfInBounds i true).getD i false = true by simp [hsz, hil]] at this
        cases this
      rw [put_get_ne _ _ hne]
      refine hold t (fun j oj hj hdj => ?_)
      have hji : i ≠ j := fun e => by
        subst e
        rw [hol] at hj
        injection hj with hj
        subst hj
        exact hne hdj
      have := ht j oj hj hdj
      rwa [getD_set_false hji] at this
    · intro j oj t hj hdj hlj
      by_cases hji : j = i
      · subst hji
        rw [hol] at hj
        injection hj with hj
        subst hj
        rw [upd_same, hdj]
        obtain ⟨hdN, _⟩ := hdu t hdj
        have h1 := put_get_eq a' v (t := t) (by rw [hsize, ha]; exact hdN)
        have h2 := put_get_eq F v (t := t) (by rw [hF.1, ha]; exact hdN)
        rw [h1]
        show _ = some ((F.put (some t) v).tmps.getD t undef)
        rw [Array.getD_eq_getD_getElem?, h2]
        rfl
      · rw [getD_set_false (Ne.symm hji)] at hlj
        rw [upd_other _ _ hji]
        have hne : o.dst ≠ some t := fun he => hji ((hdu t he).2 j (dst_of j oj t hj hdj))
        exact (put_get_ne _ _ hne).trans (hu j oj t hj hdj hlj)
    · intro j hjl hlj
      by_cases hji : j = i
      · subst hji
        rw [upd_same]
        exact hs1
      · rw [upd_other _ _ hji]
        rw [getD_set_false (Ne.symm hji)] at hlj
        exact hv j hjl hlj
  have nolets : ¬ LetsOut (EndM a.defers o.dst (fun v w2 => V i v ∧ M (upd (fun j => listed.getD j false) i true) (upd u i v) w2)) := by
    rintro ⟨_, _, h, _⟩
    cases h
  unfold wpOp
  simp only [ho]
  simp only [wpList, hwant] at hgoal
  by_cases hw : Region.wanted o (yielded l.toArray a'.tmps) = true
  · rw [if_pos hw] at hgoal ⊢
    rcases hgoal with h | ⟨_, h⟩
    · left
      unfold Oper.wp at h ⊢
      rw [heval] at h
      generalize (execOp a'.eval o).run P w' = r at h ⊢
      cases r with
      | ok n w'' =>
        cases n <;> simp only [Oper.upon] at h ⊢
        case value u => exact fin _ _ h
        case skip => exact fin _ _ h
        case defer x =>
          exfalso
          obtain ⟨_, h2, _⟩ := h
          rw [put_defers] at h2
          have := congrArg List.length h2
          simp only [List.length_cons, hF.2] at this
          omega
        case enter f args =>
          refine Calls.mono h fun e w'' he => ?_
          cases e with
          | returned u => exact fin _ _ he
          | panicked c => cases he.1
          | outgrown => exact absurd he nolets
        case row row args => exact Rows.mono h fun u w'' he => fin _ _ he
      | halt x w'' =>
        cases x <;> simp only [Oper.upon] at h ⊢
        case panic u => cases h.1
    · exact absurd h nolets
  · rw [if_neg hw] at hgoal ⊢
    exact fin _ _ hgoal
theorem relM_any {Q : Exit → Act → World → Prop} {N : Nat} (hB : relBm l.toArray N = true) (ha : a.tmps.size = N) (hop : GoalsM P l.toArray V M a l 0)
    (hend : ∀ u w1, (∀ j, j < l.length → V j (u j)) → M (fun j => decide (j < l.length)) u w1 → Q .normal (putAll u l 0 a) w1) :
    ∀ (f : Nat) (listed : Array Bool) (a' : Act) (w' : World), listed.size = l.length → listed.toList.count false = f → InvM V M l a listed a' w' → wpAny P .any l.toArray Q f listed a' w'
  | 0, listed, a', w', hsz, hc, inv => by
    have hall : ∀ j, j < l.length → listed.getD j false = true := fun j hj => by
      have h1 : false ∉ listed.toList := List.count_eq_zero.1 hc
      have hlt : j < listed.size := by omega
      cases hb : listed[j]
      · exact absurd (by rw [← hb]; simp) h1
      · simp [hlt, hb]
    have hready : Region.ready .any l.toArray listed = [] := by
      rw [List.eq_nil_iff_forall_not_mem]
      intro j hj
      obtain ⟨h0, o, ho, _⟩ := mem_ready.1 hj
      have hj' : j < l.length := by
        rcases Nat.lt_or_ge j l.length with h | h
        · exact h
        · simp [List.getElem?_eq_none h] at ho
      have := hall j hj'
      have hlt : j < listed.size := by omega
      simp [hlt] at this h0
      rw [this] at h0
      cases h0
    refine ⟨hready, ?_⟩
    obtain ⟨hdef, hsize, _, hold, u, hu, hv, hM⟩ := inv
    have e : a' = putAll u l 0 a := by
      have h1 := putAll_size u l 0 a
      obtain ⟨tm, df⟩ := a'
      generalize hFe : putAll u l 0 a = F at h1
      obtain ⟨tm2, df2⟩ := F
      simp only at hdef hsize h1
      have : tm = tm2 := by
        apply Array.ext_getElem?
        intro t
        have hF2 : tm2[t]? = (putAll u l 0 a).tmps[t]? := by rw [hFe]
        rw [hF2]
        by_cases hex : ∃ (j : Nat) (o : Oper), l[j]? = some o ∧ o.dst = some t
        · obtain ⟨j, o, hj, hd⟩ := hex
          obtain ⟨hdN, huniq⟩ := (relBm_spec hB (i := j) (o := o) (by simpa using hj)).1 t hd
          have hj' : j < l.length := by
            rcases Nat.lt_or_ge j l.length with h | h
            · exact h
            · simp [List.getElem?_eq_none h] at hj
          have h2 := putAll_hit u l 0 a j o (t := t) (by rw [ha]; exact hdN) hj hd (fun k x hk hx => huniq k (by unfold dstOf; rw [List.getElem?_toArray, hk]; exact hx))
          rw [Nat.zero_add] at h2
          rw [h2]
          exact hu j o t hj hd (hall j hj')
        · rw [putAll_miss u l 0 a (fun (o : Oper) ho hd => by
            obtain ⟨j, hj, rfl⟩ := List.getElem_of_mem ho
            exact hex ⟨j, l[j], by simp [hj], hd⟩)]
          exact hold t (fun j o hj hd => absurd ⟨j, o, hj, hd⟩ hex)
      rw [this, hdef, h1.2]
    rw [e]
    refine hend u w' (fun j hj => hv j hj (hall j hj)) ?_
    have hL : (fun j => listed.getD j false) = fun j => decide (j < l.length) := by
      funext j
      by_cases hj : j < l.length
      · rw [hall j hj]; simp [hj]
      · rw [decide_eq_false hj]
        simp [Array.getD, hsz, hj]
    rw [← hL]
    exact hM
  | f + 1, listed, a', w', hsz, hc, inv => by
    refine ⟨fun h0 => ?_, fun i hi => ?_⟩
    · exfalso
      have hall : ∀ j, j < l.length → listed.getD j false = true := by
        intro j
        induction j using Nat.strongRecOn with
        | ind j ih =>
          intro hj
          cases hlj : listed.getD j false
          · exfalso
            have hlt : j < listed.size := by omega
            have : j ∈ Region.ready .any l.toArray listed := mem_ready.2 ⟨by simpa [hlt] using hlj, l[j], by simp [hj], fun e he hb => by
              have := (relBm_spec hB (i := j) (o := l[j]) (by simp [hj])).2.2.1 e he hb
              exact ih e.on this (by omega)⟩
            rw [h0] at this
            cases this
          · rfl
      have : listed.toList.count false = 0 := List.count_eq_zero.2 (fun hm => by
        obtain ⟨j, hj, he⟩ := List.getElem_of_mem hm
        have hj' : j < listed.size := by simpa using hj
        have := hall j (by omega)
        simp [hj'] at this
        simp [this] at he)
      omega
    · refine wpOp_mono (fun a'' w'' h => ?_) (relM_step hB ha hop hsz inv hi)
      refine relM_any hB ha hop hend f _ a'' w'' (by simpa using hsz) ?_ h
      obtain ⟨hun, o, ho, _⟩ := mem_ready.1 hi
      have hil : i < listed.size := by
        have : i < l.length := by
          rcases Nat.lt_or_ge i l.length with h | h
          · exact h
          · simp [List.getElem?_eq_none h] at ho
        omega
      have hun' : listed[i] = false := by simpa [hil] using hun
      rw [Array.toList_setIfInBounds, List.count_set (by simpa using hil)]
      simp [hun', hc]
end
/-- Each operation by itself, under the watch M; no order is looked at. -/
theorem wp_region_relM {P : Program} {id : Nat} {Q : Exit → Act → World → Prop} {a : Act} {w : World} {l : List Oper} (V : Nat → Value → Prop) (M : (Nat → Bool) → (Nat → Value) → World → Prop) (N : Nat) (hm : P.follows .mixedOrders = true) (hB : relBm l.toArray N = true) (ha : a.tmps.size = N)
    (h0 : ∀ u w', Below w.heap.size w w' → w'.heap = w.heap → M (fun _ => false) u w') (hop : GoalsM P l.toArray V M a l 0)
    (hend : ∀ u w1, (∀ j, j < l.length → V j (u j)) → M (fun j => decide (j < l.length)) u w1 → Q .normal (putAll u l 0 a) w1) : (Code.region id l.toArray true).wp P Q a w := by
  refine wp_region_any hm ?_
  have hf : (fun j => (Array.replicate l.length false).getD j false) = fun _ => false := by funext j; exact getD_replicate_false _ j
  have := relM_any (Q := Q) hB ha hop hend l.length (Array.replicate l.length false) a { w with drawn := w.drawn + 1 } (by simp) (by simp)
    ⟨rfl, rfl, fun j o _ hl => (by rw [getD_replicate_false] at hl; cases hl), fun _ _ => rfl, fun _ => undef, fun j o t _ _ hl => (by rw [getD_replicate_false] at hl; cases hl), fun j _ hl => (by rw [getD_replicate_false] at hl; cases hl), by rw [hf]; exact h0 _ _ (Below.refl _ _).drew rfl⟩
  simpa using this
end Go.Proofs.YtldoedmclfbgpaaDoor
namespace Go.Proofs.YtldoedmclfbgpaaDoor
open Go.RowKit

set_option maxHeartbeats 1000000 in
theorem c_ids_Check (l : List Int) (A : Option Addr) (c : Nat) (w : World) (h : InI w A c l) : Calls Tryd.prog 63 #[.slice A l.length c] w (RetV w (.bool (idsOk 0 l))) := by
  have hL := h.1
  have hC := h.2.1
  have hS := h.2.2.1
  have H := Lib.hid h
  clear h
  go_enter Tryd.func63, Tryd.ntmps63
  go_wp2_with (fail)
  go_loopw [3, 5, 8] (fun v _ i wr => ∃ (k : Nat) (last : Int), k ≤ l.length ∧ i = .int .i64 k ∧ v = .int .i64 last ∧ Hid (idsOk last (l.drop k) = idsOk 0 l) ∧ Hid (Below w.heap.size w wr)) (fun _ _ i _ => l.length - (intOf i).toNat)
  case atStart => exact ⟨0, 0, by omega, rfl, rfl, rfl, Below.refl _ _⟩
  case round =>
    obtain ⟨k, last, hk, rfl, rfl, R, S⟩ := hrel
    by_cases hlt : k < l.length
    · have d1 : decide ((k : Int) < (l.length : Int)) = true := by simp; omega
      obtain ⟨b, off, hA, hb, hrow⟩ := (H.out.below S.out).at hlt
      have e0 : wr.cell? ⟨b, off + k, none⟩ = some (.int .i64 l[k]) := by have := hrow k hlt 0 _ rfl; simpa using this
      have R2 := Lib.hid ((idsOk_at hlt last).symm.trans R.out)
      obtain ⟨x, hx⟩ : ∃ x, x = l[k] := ⟨_, rfl⟩
      rw [← hx] at e0 R2
      have hi1 : (0 : Int) ≤ (k : Int) := by omega
      have hi2 : (k : Int) < (l.length : Int) := by omega
      clear hx hrow R
      subst hA
      by_cases h1 : last < x
      · by_cases h2 : x < 1073741824
        · have t1 : decide (x ≤ last) = false := by simp; omega
          have t2 : decide (1073741824 ≤ x) = false := by simp; omega
          have R3 := Lib.hid (show idsOk x (l.drop (k + 1)) = idsOk 0 l by have := R2.out; rwa [decide_eq_true (show last < x ∧ x < 1073741824 from ⟨h1, h2⟩), Bool.true_and] at this)
          clear h1 h2
          go_wp2_with (fail)
          go_roundw
          case rel => exact ⟨k + 1, x, by omega, by go_num, rfl, R3.out, S.out⟩
          case measure => simp [intOf]; omega
        · have t1 : decide (x ≤ last) = false := by simp; omega
          have t2 : decide (1073741824 ≤ x) = true := by simp; omega
          have R3 := Lib.hid (show idsOk 0 l = false by have := R2.out; rw [decide_eq_false (show ¬ (last < x ∧ x < 1073741824) by omega), Bool.false_and] at this; exact this.symm)
          clear h1 h2
          go_wp2_with (fail)
          go_ret
          exact RetV.bool R3.out.symm S.out
      · have t1 : decide (x ≤ last) = true := by simp; omega
        have R3 := Lib.hid (show idsOk 0 l = false by have := R2.out; rw [decide_eq_false (show ¬ (last < x ∧ x < 1073741824) by omega), Bool.false_and] at this; exact this.symm)
        clear h1
        go_wp2_with (fail)
        go_ret
        exact RetV.bool R3.out.symm S.out
    · obtain rfl : k = l.length := by omega
      have d1 : decide ((l.length : Int) < (l.length : Int)) = false := by simp
      have R3 := Lib.hid (show idsOk 0 l = true by rw [← R.out]; exact idsOk_end last)
      go_wp2_with (fail)
      go_ret
      exact RetV.bool R3.out.symm S.out
set_option maxHeartbeats 1000000 in
theorem c_ref07_Check (l : List Int) (A : Option Addr) (c : Nat) (w : World) (h : InI w A c l) : Calls Tryd.prog 53 #[.slice A l.length c] w (RetV w (.bool (idsOk 0 l))) := by
  have hL := h.1
  have hC := h.2.1
  have hS := h.2.2.1
  have H := Lib.hid h
  clear h
  go_enter Tryd.func53, Tryd.ntmps53
  go_wp2_with (fail)
  go_loopw [3] (fun i wr => ∃ (k : Nat) (last : Int), k ≤ l.length ∧ i = .int .i64 k ∧ Hid ((k = 0 ∧ last = 0) ∨ (∃ h : k - 1 < l.length, 0 < k ∧ last = l[k - 1] ∧ 1 ≤ last)) ∧ Hid (idsOk last (l.drop k) = idsOk 0 l) ∧ Hid (Below w.heap.size w wr)) (fun i _ => l.length - (intOf i).toNat)
  case atStart => exact ⟨0, 0, by omega, rfl, .inl ⟨rfl, rfl⟩, rfl, Below.refl _ _⟩
  case round =>
    obtain ⟨k, last, hk, rfl, PV, R, S⟩ := hrel
    by_cases hlt : k < l.length
    · have d1 : decide ((k : Int) < (l.length : Int)) = true := by simp; omega
      obtain ⟨b, off, hA, hb, hrow⟩ := (H.out.below S.out).at hlt
      have e0 : wr.cell? ⟨b, off + k, none⟩ = some (.int .i64 l[k]) := by have := hrow k hlt 0 _ rfl; simpa using this
      have R2 := Lib.hid ((idsOk_at hlt last).symm.trans R.out)
      obtain ⟨x, hx⟩ : ∃ x, x = l[k] := ⟨_, rfl⟩
      have NX : Hid (1 ≤ x → ∃ h : k + 1 - 1 < l.length, 0 < k + 1 ∧ x = l[k + 1 - 1] ∧ 1 ≤ x) := Lib.hid (fun h1 => ⟨by omega, by omega, by rw [hx]; simp, h1⟩)
      rw [← hx] at e0 R2
      have hi1 : (0 : Int) ≤ (k : Int) := by omega
      have hi2 : (k : Int) < (l.length : Int) := by omega
      have hz := S.out.size
      clear hx R
      subst hA
      have fin : ∀ (B : Bool), B = decide (last < x ∧ x < 1073741824) → (B = false → idsOk 0 l = false) ∧ (B = true → idsOk x (l.drop (k + 1)) = idsOk 0 l) := by
        intro B hB
        have := R2.out
        rw [← hB] at this
        refine ⟨fun e => by rw [e, Bool.false_and] at this; exact this.symm, fun e => by rw [e, Bool.true_and] at this; exact this⟩
      have FIN := Lib.hid fin
      clear fin
      rcases PV.out with ⟨rfl, rfl⟩ | ⟨hp, h0k, hlast, h1l⟩
      · have z0 : decide ((0 : Int) < (0 : Int)) = false := by simp
        rw [Nat.add_zero] at e0
        clear hrow
        by_cases h1 : 1 ≤ x
        · have t1 : decide (x < 1) = false := by simp; omega
          by_cases h2 : x < 1073741824
          · have t2 : decide (1073741824 ≤ x) = false := by simp; omega
            have R3 := Lib.hid ((FIN.out true (by symm; simp; omega)).2 rfl)
            have N3 := Lib.hid (NX.out h1)
            clear h1 h2
            go_wp2_with (fail)
            refine wp_region_grow (by kernel_rfl) (by kernel_rfl) ?_
            repeat (go_big_quiet_step ((first | (fail))))
            refine wpQuiet_nil ?_
            intro w2 hb2
            have S2 := Lib.hid (S.out.trans (hb2.mono hz))
            clear hb2
            go_wp2_with (fail)
            go_roundw
            case rel => exact ⟨1, x, by omega, by go_num, .inr N3.out, R3.out, S2.out⟩
            case measure => simp [intOf]; omega
          · have t2 : decide (1073741824 ≤ x) = true := by simp; omega
            have R3 := Lib.hid ((FIN.out false (by symm; simp; omega)).1 rfl)
            clear h1 h2
            go_wp2_with (fail)
            refine wp_region_grow (by kernel_rfl) (by kernel_rfl) ?_
            repeat (go_big_quiet_step ((first | (fail))))
            refine wpQuiet_nil ?_
            intro w2 hb2
            have S2 := Lib.hid (S.out.trans (hb2.mono hz))
            clear hb2
            go_wp2_with (fail)
            go_ret
            exact RetV.bool R3.out.symm S2.out
        · have t1 : decide (x < 1) = true := by simp; omega
          have R3 := Lib.hid ((FIN.out false (by symm; simp; omega)).1 rfl)
          clear h1
          go_wp2_with (fail)
          refine wp_region_grow (by kernel_rfl) (by kernel_rfl) ?_
          repeat (go_big_quiet_step ((first | (fail))))
          refine wpQuiet_nil ?_
          intro w2 hb2
          have S2 := Lib.hid (S.out.trans (hb2.mono hz))
          clear hb2
          go_wp2_with (fail)
          go_ret
          exact RetV.bool R3.out.symm S2.out
      · have z0 : decide ((0 : Int) < (k : Int)) = true := by simp; omega
        obtain ⟨m, hkm⟩ : ∃ m, m = k - 1 := ⟨_, rfl⟩
        have e1 : wr.cell? ⟨b, off + m, none⟩ = some (.int .i64 last) := by have := hrow m (by omega) 0 _ rfl; subst hkm; rw [hlast]; simpa using this
        have hm1 : (k : Int) - 1 = (m : Int) := by omega
        have hi3 : (0 : Int) ≤ (m : Int) := by omega
        have hi4 : (m : Int) < (l.length : Int) := by omega
        clear hrow hlast hp PV hkm
        by_cases h1 : 1 ≤ x
        · have t1 : decide (x < 1) = false := by simp; omega
          by_cases h2 : x < 1073741824
          · have t2 : decide (1073741824 ≤ x) = false := by simp; omega
            by_cases h3 : last < x
            · have t3 : decide (x ≤ last) = false := by simp; omega
              have R3 := Lib.hid ((FIN.out true (by symm; simp; omega)).2 rfl)
              have N3 := Lib.hid (NX.out h1)
              clear h1 h2 h3
              go_wp2_with (fail)
              refine wp_region_grow (by kernel_rfl) (by kernel_rfl) ?_
              repeat (go_big_quiet_step ((first | (fail))))
              refine wpQuiet_nil ?_
              intro w2 hb2
              have S2 := Lib.hid (S.out.trans (hb2.mono hz))
              clear hb2
              go_wp2_with (fail)
              go_roundw
              case rel => exact ⟨k + 1, x, by omega, by go_num, .inr N3.out, R3.out, S2.out⟩
              case measure => simp [intOf]; omega
            · have t3 : decide (x ≤ last) = true := by simp; omega
              have R3 := Lib.hid ((FIN.out false (by symm; simp; omega)).1 rfl)
              clear h1 h2 h3
              go_wp2_with (fail)
              refine wp_region_grow (by kernel_rfl) (by kernel_rfl) ?_
              repeat (go_big_quiet_step ((first | (fail))))
              refine wpQuiet_nil ?_
              intro w2 hb2
              have S2 := Lib.hid (S.out.trans (hb2.mono hz))
              clear hb2
              go_wp2_with (fail)
              go_ret
              exact RetV.bool R3.out.symm S2.out
          · have t2 : decide (1073741824 ≤ x) = true := by simp; omega
            have R3 := Lib.hid ((FIN.out false (by symm; simp; omega)).1 rfl)
            clear h1 h2
            go_wp2_with (fail)
            refine wp_region_grow (by kernel_rfl) (by kernel_rfl) ?_
            repeat (go_big_quiet_step ((first | (fail))))
            refine wpQuiet_nil ?_
            intro w2 hb2
            have S2 := Lib.hid (S.out.trans (hb2.mono hz))
            clear hb2
            go_wp2_with (fail)
            go_ret
            exact RetV.bool R3.out.symm S2.out
        · have t1 : decide (x < 1) = true := by simp; omega
          have R3 := Lib.hid ((FIN.out false (by symm; simp; omega)).1 rfl)
          clear h1
          go_wp2_with (fail)
          refine wp_region_grow (by kernel_rfl) (by kernel_rfl) ?_
          repeat (go_big_quiet_step ((first | (fail))))
          refine wpQuiet_nil ?_
          intro w2 hb2
          have S2 := Lib.hid (S.out.trans (hb2.mono hz))
          clear hb2
          go_wp2_with (fail)
          go_ret
          exact RetV.bool R3.out.symm S2.out
    · obtain rfl : k = l.length := by omega
      have d1 : decide ((l.length : Int) < (l.length : Int)) = false := by simp
      have R3 := Lib.hid (show idsOk 0 l = true by rw [← R.out]; exact idsOk_end last)
      go_wp2_with (fail)
      go_ret
      exact RetV.bool R3.out.symm S.out
end Go.Proofs.YtldoedmclfbgpaaDoor
namespace Go.Proofs.YtldoedmclfbgpaaDoor
open Go.RowKit

theorem elemInt : Elem Tryd.prog 63 3 1 8 := Elem.mk' (z := .int .i64 0) Tryd.underlying63 (by kernel_rfl) rfl (by omega) (by omega)
theorem ic_ones (l : List Int) : ∀ u ∈ l.flatMap ic, u.oneCell' = true := by
  intro u hu
  obtain ⟨x, _, hx⟩ := List.mem_flatMap.1 hu
  simp only [ic, List.mem_singleton] at hx
  subst hx
  rfl
/-- What is told of the values that a region's operations hand back. -/
def VB (l : List (Option Value)) (j : Nat) (v : Value) : Prop := match l[j]? with | some (some x) => v = x | _ => True
theorem ownB_kept {w w' : World} {B g : Nat} {e : TypeId} {size n : Nat} {v : Value} {xs : List Value} (h : w.ownsRow B e size v n xs) (k : Kept (some g) w.heap.size w w') (hg : g < B) : w'.ownsRow B e size v n xs := by
  obtain ⟨h1, h2⟩ := h
  refine ⟨h1, ?_⟩
  rcases h2 with h2 | ⟨q, cap, cur, hv, hq, hh, r⟩
  · exact .inl h2
  · exact .inr ⟨q, cap, cur, hv, hq, by
      have hlt : q < w.heap.size := by
        rcases Nat.lt_or_ge q w.heap.size with hlt | hge
        · exact hlt
        · rw [Array.getElem?_eq_none hge] at hh; cases hh
      rw [k.block q hlt (fun e => by injection e with e; omega)]
      exact hh, r⟩
set_option maxHeartbeats 400000 in
theorem c_take (x : Int) (is : Bool) (O : Nat) (l : List Int) (v : Value) (w : World) (hb : Blk w O #[v]) (ho : w.ownsRow (O + 1) 3 1 v l.length (l.flatMap ic)) (hl : l.length ≤ 1000000) :
    Calls Tryd.prog 80 #[.int .i64 x, .bool is, .pointer (some ⟨O, 0, none⟩)] w fun e w' => (∃ u, e = .returned u) ∧ Below O w w' ∧ ∃ v', Blk w' O #[v'] ∧ w'.ownsRow (O + 1) 3 1 v' (if is = true then l ++ [x] else l).length ((if is = true then l ++ [x] else l).flatMap ic) := by
  have hlt := hb.lt
  have HB := Lib.hid hb
  have HO := Lib.hid ho
  cases is
  · clear ho hb
    go_enter Tryd.func80, Tryd.ntmps80
    go_wp2_with (fail)
    go_end0
    exact ⟨⟨_, rfl⟩, Below.refl _ _, v, HB.out, HO.out⟩
  · obtain ⟨A, c, rfl, -⟩ := own_form ho
    have e0 := hb.cell (i := 0) rfl
    have f0 := fun i => hb.frozen i
    clear ho hb
    go_enter Tryd.func80, Tryd.ntmps80
    go_wp2_with ((at_builtin; refine Stop.out ?_))
    refine Stop.mk (wpList_app _ rfl _ _ elemInt rfl (O + 1) (.slice A l.length c) l.length _ rfl (own_below HO.out ((Below.refl _ _).alloc (Nat.le_refl _) _)) _ 1 1 (ic x) rfl (Src.new w (ic x) _ 1 rfl) (by simp [ic, Value.oneCell']) (by omega) (by simp; omega) ?_)
    intro v2 w2 own2 _ hb2 _
    have B2 : Blk w2 O #[.slice A l.length c] := (HB.out.below ((Below.refl _ _).alloc (Nat.le_refl _) _) hlt).below hb2 (by omega)
    have H2 := Lib.hid B2
    have hb3 : Below O w w2 := Below.trans (b := w.alloc _) ((Below.refl _ _).alloc (by omega) _) (hb2.mono (by omega))
    have O2 := Lib.hid own2
    clear e0 f0 hb2 own2
    have e2 := B2.cell (i := 0) rfl
    have f2 := fun i => B2.frozen i
    clear B2
    obtain ⟨A2, c2, rfl, -⟩ := own_form O2.out
    go_wp2_with (fail)
    go_end0
    refine ⟨⟨_, rfl⟩, hb3.setCell (Nat.le_refl _) _, _, H2.out.store 0 _, ?_⟩
    have := ownB_kept O2.out (kept_set w2 O 0 (.slice A2 (l.length + 1) c2)) (by omega)
    simpa using this
/-- While a number is handed to the closure, in a region that draws its order. -/
structure TK (w : World) (O : Nat) (l l' : List Int) (L : Nat → Bool) (u : Nat → Value) (w1 : World) : Prop where
  S : Below w.heap.size w w1
  hO : w.heap.size < O
  K : Blk w1 w.heap.size #[.bool true, .bool false, .bool false]
  box : ∃ v, Blk w1 O #[v] ∧ w1.ownsRow (O + 1) 3 1 v (if L 7 = true then l' else l).length ((if L 7 = true then l' else l).flatMap ic)
section
variable {w w1 w2 : World} {O : Nat} {l l' : List Int} {L : Nat → Bool} {u : Nat → Value} {v : Value} {j : Nat}
theorem TK.pure (h : TK w O l l' L u w1) (hj : j ≠ 7) : TK w O l l' (upd L j true) (upd u j v) w1 := by
  have e : upd L j true 7 = L 7 := upd_other _ _ (Ne.symm hj)
  exact ⟨h.S, h.hO, h.K, by rw [e]; exact h.box⟩
theorem TK.call (h : TK w O l l' L u w1) (k : Below O w1 w2) (hv : ∃ v', Blk w2 O #[v'] ∧ w2.ownsRow (O + 1) 3 1 v' l'.length (l'.flatMap ic)) : TK w O l l' (upd L 7 true) (upd u 7 v) w2 :=
  ⟨h.S.trans (k.mono (Nat.le_of_lt h.hO)), h.hO, h.K.below k h.hO, by rw [upd_same, if_pos rfl]; exact hv⟩
end
end Go.Proofs.YtldoedmclfbgpaaDoor
namespace Go.Proofs.YtldoedmclfbgpaaDoor
open Go.RowKit

set_option maxHeartbeats 400000 in
theorem c_shelf_New (w : World) : Calls Tryd.prog 61 #[] w (fun e w' => e = .returned (.pointer (some ⟨w.heap.size + 1, 0, none⟩)) ∧ Below w.heap.size w w' ∧ MapAt w' w.heap.size #[] 0 ∧ Blk w' (w.heap.size + 1) #[.int .i64 1, .map (some w.heap.size), .slice none 0 0] ∧ w'.heap.size = w.heap.size + 2) := by
  go_enter Tryd.func61, Tryd.ntmps61
  go_wp2_with (with_reducible refine stop_makeMap _ rfl ?_)
  refine Stop.mk (wpList_makeMapI rfl _ rfl ?_)
  intro w1 hm hb hz
  go_wp2_with (fail)
  go_ret
  have b2 := (Below.refl w1.heap.size w1).alloc (Nat.le_refl _) (.cells #[.int .i64 1, .map (some w.heap.size), .slice none 0 0] 109)
  refine ⟨rfl, hb.trans (b2.mono (by omega)), hm.below b2 (by omega), ?_, by simp [hz]⟩
  have := Blk.new w1 109 #[.int .i64 1, .map (some w.heap.size), .slice none 0 0]
  rwa [hz] at this
/-- Is this dead card the one that is looked for? -/
theorem c_Get1 (d : Dead) (id : Int) (q : Nat) (w : World) (hq : Blk w q #[.int .i64 id]) : Calls Tryd.prog 79 #[.agg #[.int .i64 d.id, .int .i64 d.ver, .int .i64 d.seq], .pointer (some ⟨q, 0, none⟩)] w (RetV w (.bool (decide (d.id = id)))) := by
  have e0 := hq.cell (i := 0) rfl
  have hlt := hq.lt
  have HD := Lib.hid (show (d.id == id) = decide (d.id = id) from rfl)
  clear hq
  go_enter Tryd.func79, Tryd.ntmps79
  go_wp2_with (fail)
  go_ret
  exact RetV.bool HD.out (by repeat (first | exact Below.refl _ _ | refine Below.drew ?_ | refine Below.alloc ?_ (by first | omega | (simp; done) | (simp; omega)) _ | refine Below.setCell ?_ (by first | omega | (simp; done) | (simp; omega)) _ | refine Below.trans ?_ (Below.mono (by assumption) (by first | omega | (simp; done) | (simp; omega)))))
def RetIdxD (l : List Dead) (id : Int) (w : World) (e : Ending) (w' : World) : Prop := ∃ z : Int, e = .returned (.int .i64 z) ∧ decide (0 ≤ z) = hasDead l id ∧ Below w.heap.size w w'
set_option maxHeartbeats 400000 in
theorem c_IndexFuncD (l : List Dead) (id : Int) (q : Nat) (A : Option Addr) (c : Nat) (w : World) (h : In 3 Dead.cells w A c l) (hq : Blk w q #[.int .i64 id]) :
    Calls Tryd.prog 87 #[.slice A l.length c, .func (.func 79) #[] #[.pointer (some ⟨q, 0, none⟩)]] w (RetIdxD l id w) := by
  have hL := h.1
  have hC := h.2.1
  have hS := h.2.2.1
  have H := Lib.hid h
  have HQ := Lib.hid hq
  have hql := hq.lt
  clear h hq
  go_enter Tryd.func87, Tryd.ntmps87
  go_wp2_with (fail)
  go_loopw [5, 8] (fun _ i wr => ∃ k : Nat, k ≤ l.length ∧ i = .int .i64 k ∧ Hid (hasDead (l.drop k) id = hasDead l id) ∧ Hid (Below w.heap.size w wr)) (fun _ i _ => l.length - (intOf i).toNat)
  case atStart => exact ⟨0, by omega, rfl, rfl, Below.refl _ _⟩
  case round =>
    obtain ⟨k, hk, rfl, R, S⟩ := hrel
    have hz := S.out.size
    by_cases hlt : k < l.length
    · obtain ⟨b, off, hA, hbb, hrow⟩ := H.out.at hlt
      have d0 := hrow.belowB S.out hbb k hlt 0 _ rfl
      have d1 := hrow.belowB S.out hbb k hlt 1 _ rfl
      have d2 := hrow.belowB S.out hbb k hlt 2 _ rfl
      simp only [Nat.add_zero] at d0
      have R2 := Lib.hid (show (decide (l[k].id = id) || hasDead (l.drop (k + 1)) id) = hasDead l id by rw [← R.out, drop_at hlt]; rfl)
      obtain ⟨x, hx⟩ : ∃ x, x = l[k] := ⟨_, rfl⟩
      rw [← hx] at d0 d1 d2 R2
      have t0 : decide ((k : Int) < (l.length : Int)) = true := by simp; omega
      have hi1 : (0 : Int) ≤ (k : Int) := by omega
      have hi2 : (k : Int) < (l.length : Int) := by omega
      have hbw : b < wr.heap.size := by omega
      clear hrow hx R
      subst hA
      cases hv : decide (x.id = id)
      · have R3 := Lib.hid (show hasDead (l.drop (k + 1)) id = hasDead l id by rw [← R2.out, hv]; rfl)
        go_wp2_with (go_at_call 79; refine (c_Get1 x id q _ (HQ.out.below S.out hql)).mono ?_; rintro e w1 ⟨rfl, hb1⟩)
        go_roundw
        case rel => exact ⟨k + 1, by omega, by go_num, R3.out, S.out.trans (hb1.mono hz)⟩
        case measure => simp [intOf]; omega
      · have R3 := Lib.hid (show hasDead l id = true by rw [← R2.out, hv]; rfl)
        go_wp2_with (go_at_call 79; refine (c_Get1 x id q _ (HQ.out.below S.out hql)).mono ?_; rintro e w1 ⟨rfl, hb1⟩)
        go_ret
        exact ⟨k, rfl, by rw [R3.out]; simp, S.out.trans (hb1.mono hz)⟩
    · obtain rfl : k = l.length := by omega
      have t0 : decide ((l.length : Int) < (l.length : Int)) = false := by simp
      have R3 := Lib.hid (show hasDead l id = false by rw [← R.out, List.drop_length]; rfl)
      go_wp2_with (fail)
      go_ret
      exact ⟨-1, rfl, by rw [R3.out]; rfl, S.out⟩
set_option maxHeartbeats 400000 in
theorem c_ContainsFuncD (l : List Dead) (id : Int) (q : Nat) (A : Option Addr) (c : Nat) (w : World) (h : In 3 Dead.cells w A c l) (hq : Blk w q #[.int .i64 id]) :
    Calls Tryd.prog 78 #[.slice A l.length c, .func (.func 79) #[] #[.pointer (some ⟨q, 0, none⟩)]] w (RetV w (.bool (hasDead l id))) := by
  go_enter Tryd.func78, Tryd.ntmps78
  go_wp2_with (go_at_call 87; refine (c_IndexFuncD l id q A c _ h hq).mono ?_; rintro e w1 ⟨z, rfl, hz, hb1⟩; have HZ := Lib.hid hz; clear hz)
  go_ret
  exact RetV.bool HZ.out hb1
/-! A look for a card. -/
def zcA : Array Value := #[.int .i64 0, .int .i64 0, .int .u32 0, .int .i64 0, .int .i64 0, .string (str []), .int .i64 0, .int .i64 0, .string (str []), .int .i64 0, .int .i64 0, .string (str []), .int .i64 0, .int .i64 0, .string (str []), .int .i64 0, .int .i64 0, .string (str []), .int .i64 0, .int .i64 0, .string (str []), .int .i64 0, .int .i64 0, .string (str []), .int .i64 0, .int .i64 0, .string (str [])]
theorem zcA_size : zcA.size = 27 := rfl
theorem zcA_one : zcA.all (·.oneCell') = true := by simp [zcA, Value.oneCell']
theorem CQ.size (x : CQ) : x.c.arr.size = 27 := by rw [Card.arr_size, x.wf]
theorem CQ.ones (x : CQ) : x.c.arr.all (·.oneCell') = true := by
  rw [← Array.all_toList, List.all_eq_true]
  intro v hv
  unfold Card.arr at hv
  simp only [List.cons_append, List.nil_append, List.mem_cons, List.mem_flatMap] at hv
  rcases hv with rfl | rfl | rfl | ⟨y, -, hy⟩
  · rfl
  · rfl
  · rfl
  · simp only [Val.cells, List.mem_cons, List.not_mem_nil, or_false] at hy
    rcases hy with rfl | rfl | rfl <;> rfl
theorem built_zc : Tryd.prog.built 56 [] = some zcA := by kernel_rfl
theorem zero_zc (w : World) : (zeroValue 56).run Tryd.prog w = .ok (.agg zcA) w := by kernel_rfl
end Go.Proofs.YtldoedmclfbgpaaDoor
namespace Go.Proofs.YtldoedmclfbgpaaDoor
open Go.RowKit

/-- A shelf in memory: its block, its map, its dead. -/
structure ShelfAt (w : World) (s m : Nat) (next : Int) (l : List CQ) (v : Value) (dead : List Dead) : Prop where
  blk : Blk w s #[.int .i64 next, .map (some m), v]
  map : MapAt w m (esA l) l.length
  dead : ∃ A c, v = .slice A dead.length c ∧ In 3 Dead.cells w A c dead
theorem ShelfAt.below {w w' : World} {s m : Nat} {next : Int} {l : List CQ} {v : Value} {dead : List Dead} (h : ShelfAt w s m next l v dead) (hb : Below w.heap.size w w') : ShelfAt w' s m next l v dead := by
  obtain ⟨A, c, hv, hd⟩ := h.dead
  exact ⟨h.blk.below hb h.blk.lt, h.map.below hb h.map.lt, A, c, hv, hd.below hb⟩
/-- While an entry is looked up, and a box is made for it. -/
structure LM (w : World) (cs : Array Value) (L : Nat → Bool) (u : Nat → Value) (w1 : World) : Prop where
  S : Below w.heap.size w w1
  c10 : L 10 = true → L 9 = true
  box : L 9 = true → ∃ g, u 9 = .pointer (some ⟨g, 0, none⟩) ∧ w.heap.size ≤ g ∧ Blk w1 g (if L 10 = true then cs else zcA)
section
variable {w w1 w2 : World} {cs : Array Value} {L : Nat → Bool} {u : Nat → Value} {v : Value} {j : Nat}
theorem LM.start (hb : Below w.heap.size w w1) : LM w cs (fun _ => false) u w1 := ⟨hb, (fun h => (by first | cases h | simp at h)), (fun h => (by first | cases h | simp at h))⟩
theorem LM.pure (h : LM w cs L u w1) (h1 : j ≠ 9) (h2 : j ≠ 10) : LM w cs (upd L j true) (upd u j v) w1 := by
  have e9 : upd L j true 9 = L 9 := upd_other _ _ (Ne.symm h1)
  have e10 : upd L j true 10 = L 10 := upd_other _ _ (Ne.symm h2)
  have f9 : upd u j v 9 = u 9 := upd_other _ _ (Ne.symm h1)
  exact ⟨h.S, by rw [e9, e10]; exact h.c10, by rw [e9, e10, f9]; exact h.box⟩
theorem LM.no10 (h : LM w cs L u w1) (h9 : L 9 = false) : L 10 = false := by
  cases e : L 10
  · rfl
  · have := h.c10 e; rw [h9] at this; cases this
theorem LM.make (h : LM w cs L u w1) (h9 : L 9 = false) (t : TypeId) : LM w cs (upd L 9 true) (upd u 9 (.pointer (some ⟨w1.heap.size, 0, none⟩))) (w1.alloc (.cells zcA t)) := by
  have e10 : upd L 9 true 10 = false := (upd_other _ _ (by decide)).trans (h.no10 h9)
  refine ⟨h.S.trans (((Below.refl w1.heap.size w1).alloc (Nat.le_refl _) _).mono h.S.size), (fun e => by rw [e10] at e; cases e), fun _ => ⟨w1.heap.size, upd_same .., h.S.size, ?_⟩⟩
  rw [if_neg (by rw [e10]; simp)]
  exact Blk.new _ _ _
theorem LM.put (h : LM w cs L u w1) {g : Nat} (h9 : L 9 = true) (hg : u 9 = .pointer (some ⟨g, 0, none⟩)) (hw : w.heap.size ≤ g) (b : Blk w2 g cs) (k : Kept (some g) w1.heap.size w1 w2) : LM w cs (upd L 10 true) (upd u 10 v) w2 := by
  have e9 : upd L 10 true 9 = true := (upd_other _ _ (by decide)).trans h9
  have f9 : upd u 10 v 9 = u 9 := upd_other _ _ (by decide)
  refine ⟨h.S.trans (k.oneB h.S.size hw), fun _ => e9, fun _ => ⟨g, f9.trans hg, hw, ?_⟩⟩
  rw [if_pos (upd_same ..)]
  exact b
end
def RetGet (w : World) (e : Int) (x : Ending) (w' : World) : Prop := ∃ cs : Array Value, x = .returned (.tuple #[.agg cs, .int .i64 e]) ∧ cs.size = 27 ∧ cs.all (·.oneCell') = true ∧ Below w.heap.size w w'
theorem ShelfAt.I0 {w : World} {id : Int} (W0 : World) (h : W0 = ((w.alloc (.cells #[.int .i64 id] 3)).alloc (.cells zcA 56))) :
    Below w.heap.size w W0 ∧ Blk W0 w.heap.size #[.int .i64 id] ∧ Blk W0 (w.heap.size + 1) zcA ∧ W0.heap.size = w.heap.size + 2 := by
  subst h
  have b1 : Below w.heap.size w (w.alloc (.cells #[.int .i64 id] 3)) := (Below.refl _ _).alloc (Nat.le_refl _) _
  have b2 : Below (w.heap.size + 1) (w.alloc (.cells #[.int .i64 id] 3)) ((w.alloc (.cells #[.int .i64 id] 3)).alloc (.cells zcA 56)) := (Below.refl _ _).alloc (by simp) _
  refine ⟨b1.trans (b2.mono (by omega)), (Blk.new w _ _).below b2 (by omega), ?_, by simp⟩
  have := Blk.new (w.alloc (.cells #[.int .i64 id] 3)) 56 zcA
  simpa using this
set_option maxHeartbeats 1000000 in
theorem c_shelf_Get (s m : Nat) (next : Int) (l : List CQ) (v : Value) (dead : List Dead) (id : Int) (w : World) (h : ShelfAt w s m next l v dead) :
    Calls Tryd.prog 62 #[.pointer (some ⟨s, 0, none⟩), .int .i64 id] w (RetGet w (getE (l.map CQ.c) dead id)) := by
  have H := Lib.hid h
  have hsl := h.blk.lt
  clear h
  cases hc : hasCard (l.map CQ.c) id
  · have FN := Lib.hid (find_none hc)
    have HE := Lib.hid (show getE (l.map CQ.c) dead id = if hasDead dead id then 9 else 6 by unfold getE; rw [hc]; rfl)
    clear hc
    go_enter Tryd.func62, Tryd.ntmps62
    go_wp2_with (fail)
    rw [show (#[.int .i64 0, .int .i64 0, .int .u32 0, .int .i64 0, .int .i64 0, .string (str []), .int .i64 0, .int .i64 0, .string (str []), .int .i64 0, .int .i64 0, .string (str []), .int .i64 0, .int .i64 0, .string (str []), .int .i64 0, .int .i64 0, .string (str []), .int .i64 0, .int .i64 0, .string (str []), .int .i64 0, .int .i64 0, .string (str []), .int .i64 0, .int .i64 0, .string (str [])] : Array Value) = zcA from rfl]
    obtain ⟨w0, hw0⟩ : ∃ x, x = ((w.alloc (.cells #[.int .i64 id] 3)).alloc (.cells zcA 56)) := ⟨_, rfl⟩
    rw [← hw0]
    obtain ⟨i1, i2, i3, i4⟩ := ShelfAt.I0 w0 hw0
    have B0 := Lib.hid (H.out.below i1)
    have I0 := Lib.hid i2
    have I1 := Lib.hid i3
    have S0 := Lib.hid i1
    clear hw0 i1 i2 i3
    refine wp_region_relM (VB [some (.pointer (some ⟨s, 0, none⟩)), some (.pointer (some ⟨s, 0, none⟩)), some (.pointer (some ⟨s, 1, none⟩)), some (.map (some m)), some (.int .i64 id), some (.tuple #[.agg zcA, .bool false]), some (.tuple #[.agg zcA, .bool false]), some (.agg zcA), some (.bool false), none, none, some (.bool false)]) (LM w0 zcA) 30 (by kernel_rfl) (by kernel_rfl) rfl ?_ ?_ ?_
    · intro u w' hb hh
      exact LM.start hb
    · refine ⟨?_, ?_, ?_, ?_, ?_, ?_, ?_, ?_, ?_, ?_, ?_, ?_, trivial⟩
      all_goals
        rintro L u W1 hM hL hd
        have M := Lib.hid hM
        clear hM
        simp [DepsM, Region.binds, VB] at hd
        simp only [putDeps, dstOf, Region.binds]
      case refine_4 =>
        obtain ⟨-, hu2⟩ := hd
        have q1 := (B0.out.blk.below M.out.S B0.out.blk.lt).cell (i := 1) rfl
        go_wp2_with (fail)
        exact EndM.mk rfl ⟨rfl, M.out.pure (by decide) (by decide)⟩
      case refine_5 =>
        have q1 := (I0.out.below M.out.S I0.out.lt).cell (i := 0) rfl
        go_wp2_with (fail)
        exact EndM.mk rfl ⟨rfl, M.out.pure (by decide) (by decide)⟩
      case refine_6 =>
        obtain ⟨⟨-, hu3⟩, -, hu4⟩ := hd
        rw [hu3, hu4]
        go_wp2_with (with_reducible refine stop_lookup2 _ _ _ rfl ?_)
        refine Stop.mk (wpList_lookup2N rfl _ _ _ rfl _ _ Tryd.underlying107 Tryd.underlying3 _ (zero_zc _) m _ _ rfl id rfl (B0.out.map.below M.out.S B0.out.map.lt) FN.out ?_)
        exact EndM.mk rfl ⟨rfl, M.out.pure (by decide) (by decide)⟩
      case refine_10 =>
        go_wp2_with (fail)
        exact EndM.mk rfl ⟨trivial, M.out.make hL _⟩
      case refine_11 =>
        obtain ⟨h9, hd2⟩ := hd
        have hu7 : u 7 = .agg zcA := by first | exact hd2.1.2 | exact hd2.2
        obtain ⟨g, hg, hwg, hB⟩ := M.out.box h9
        rw [if_neg (by rw [hL]; simp)] at hB
        have HB := Lib.hid hB
        have HG := Lib.hid hg
        clear hB hg
        rw [HG.out, hu7]
        go_wp2_with (with_reducible refine stS 56 _ _ rfl rfl ?_)
        refine Stop.mk (wsB rfl _ _ _ rfl g _ rfl rfl _ HB.out strC zcA_size (by first | rfl | (rw [zcA_size]; rfl)) zcA_one ?_)
        intro w9 hb9 hk9
        exact EndM.mk0 rfl ⟨trivial, M.out.put h9 HG.out hwg hb9 hk9⟩
      all_goals
        go_wp2_with (fail)
        exact EndM.mk rfl ⟨by first | exact hd.2 | rfl | trivial, M.out.pure (by decide) (by decide)⟩
    rintro u W1 hv hM
    have h8 : u 11 = .bool false := hv 11 (by simp)
    clear hv
    have Y := Lib.hid hM
    clear hM
    simp only [putAll, Act.put, Nat.reduceAdd, List.setIfInBounds_toArray, List.set_cons_zero, List.set_cons_succ]
    obtain ⟨g, hg, hgw, hgb⟩ := Y.out.box rfl
    rw [h8, hg]
    clear h8 hg hgb
    have B1 := Lib.hid (B0.out.below Y.out.S)
    have I2 := Lib.hid (I0.out.below Y.out.S I0.out.lt)
    have I3 := Lib.hid (I1.out.below Y.out.S I1.out.lt)
    have S1 := Lib.hid (S0.out.trans (Y.out.S.mono (by omega)))
    have hlw : w.heap.size < W1.heap.size := I2.out.lt
    clear Y B0 I0 I1 S0
    obtain ⟨A, c, rfl, hdin⟩ := B1.out.dead
    have HD := Lib.hid hdin
    have q2 := B1.out.blk.cell (i := 2) rfl
    clear hdin
    go_wp2_with (fail)
    refine (c_ContainsFuncD dead id w.heap.size A c _ HD.out I2.out).mono ?_
    rintro e w2 ⟨rfl, hb2⟩
    have I4 := Lib.hid (I3.out.below hb2 I3.out.lt)
    have S2 := Lib.hid (S1.out.trans (hb2.mono S1.out.size))
    clear hb2 q2
    cases hd : hasDead dead id
    all_goals
      rw [hd] at HE
      go_wp2_with (with_reducible refine stop_build 56 _ rfl ?_)
      refine Stop.mk (wpList_buildD rfl _ _ rfl [] (by rfl) zcA built_zc ?_)
      go_wp2_with (with_reducible refine stS 56 _ _ rfl rfl ?_)
      refine Stop.mk (wsB rfl _ _ _ rfl (w.heap.size + 1) _ rfl rfl _ I4.out strC zcA_size rfl zcA_one ?_)
      intro w9 hb9 hk9
      have S3 := Lib.hid (S2.out.trans (hk9.oneB S2.out.size (by omega)))
      clear hk9
      go_wp2_with (fail)
      rw [HE.out]
      exact bodyPost_ret (results_B2 rfl rfl rfl hb9 strC zcA_size) rfl ⟨zcA, rfl, zcA_size, zcA_one, S3.out⟩
  · obtain ⟨i, x, hx, hf⟩ := find_some hc
    have FN := Lib.hid hf
    have HE := Lib.hid (show getE (l.map CQ.c) dead id = 0 by unfold getE; rw [hc]; rfl)
    clear hc hx hf
    go_enter Tryd.func62, Tryd.ntmps62
    go_wp2_with (fail)
    rw [show (#[.int .i64 0, .int .i64 0, .int .u32 0, .int .i64 0, .int .i64 0, .string (str []), .int .i64 0, .int .i64 0, .string (str []), .int .i64 0, .int .i64 0, .string (str []), .int .i64 0, .int .i64 0, .string (str []), .int .i64 0, .int .i64 0, .string (str []), .int .i64 0, .int .i64 0, .string (str []), .int .i64 0, .int .i64 0, .string (str []), .int .i64 0, .int .i64 0, .string (str [])] : Array Value) = zcA from rfl]
    obtain ⟨w0, hw0⟩ : ∃ x, x = ((w.alloc (.cells #[.int .i64 id] 3)).alloc (.cells zcA 56)) := ⟨_, rfl⟩
    rw [← hw0]
    obtain ⟨i1, i2, i3, i4⟩ := ShelfAt.I0 w0 hw0
    have B0 := Lib.hid (H.out.below i1)
    have I0 := Lib.hid i2
    have I1 := Lib.hid i3
    have S0 := Lib.hid i1
    clear hw0 i1 i2 i3
    refine wp_region_relM (VB [some (.pointer (some ⟨s, 0, none⟩)), some (.pointer (some ⟨s, 0, none⟩)), some (.pointer (some ⟨s, 1, none⟩)), some (.map (some m)), some (.int .i64 id), some (.tuple #[.agg x.c.arr, .bool true]), some (.tuple #[.agg x.c.arr, .bool true]), some (.agg x.c.arr), some (.bool true), none, none, some (.bool true)]) (LM w0 x.c.arr) 30 (by kernel_rfl) (by kernel_rfl) rfl ?_ ?_ ?_
    · intro u w' hb hh
      exact LM.start hb
    · refine ⟨?_, ?_, ?_, ?_, ?_, ?_, ?_, ?_, ?_, ?_, ?_, ?_, trivial⟩
      all_goals
        rintro L u W1 hM hL hd
        have M := Lib.hid hM
        clear hM
        simp [DepsM, Region.binds, VB] at hd
        simp only [putDeps, dstOf, Region.binds]
      case refine_4 =>
        obtain ⟨-, hu2⟩ := hd
        have q1 := (B0.out.blk.below M.out.S B0.out.blk.lt).cell (i := 1) rfl
        go_wp2_with (fail)
        exact EndM.mk rfl ⟨rfl, M.out.pure (by decide) (by decide)⟩
      case refine_5 =>
        have q1 := (I0.out.below M.out.S I0.out.lt).cell (i := 0) rfl
        go_wp2_with (fail)
        exact EndM.mk rfl ⟨rfl, M.out.pure (by decide) (by decide)⟩
      case refine_6 =>
        obtain ⟨⟨-, hu3⟩, -, hu4⟩ := hd
        rw [hu3, hu4]
        go_wp2_with (with_reducible refine stop_lookup2 _ _ _ rfl ?_)
        refine Stop.mk (wpList_lookup2I rfl _ _ _ rfl _ _ Tryd.underlying107 Tryd.underlying3 m _ _ rfl id rfl (B0.out.map.below M.out.S B0.out.map.lt) i (.agg x.c.arr) FN.out ?_)
        exact EndM.mk rfl ⟨rfl, M.out.pure (by decide) (by decide)⟩
      case refine_10 =>
        go_wp2_with (fail)
        exact EndM.mk rfl ⟨trivial, M.out.make hL _⟩
      case refine_11 =>
        obtain ⟨h9, hd2⟩ := hd
        have hu7 : u 7 = .agg x.c.arr := by first | exact hd2.1.2 | exact hd2.2
        obtain ⟨g, hg, hwg, hB⟩ := M.out.box h9
        rw [if_neg (by rw [hL]; simp)] at hB
        have HB := Lib.hid hB
        have HG := Lib.hid hg
        clear hB hg
        rw [HG.out, hu7]
        go_wp2_with (with_reducible refine stS 56 _ _ rfl rfl ?_)
        refine Stop.mk (wsB rfl _ _ _ rfl g _ rfl rfl _ HB.out strC x.size (by first | rfl | (rw [x.size]; rfl)) x.ones ?_)
        intro w9 hb9 hk9
        exact EndM.mk0 rfl ⟨trivial, M.out.put h9 HG.out hwg hb9 hk9⟩
      all_goals
        go_wp2_with (fail)
        exact EndM.mk rfl ⟨by first | exact hd.2 | rfl | trivial, M.out.pure (by decide) (by decide)⟩
    rintro u W1 hv hM
    have h8 : u 11 = .bool true := hv 11 (by simp)
    clear hv
    have Y := Lib.hid hM
    clear hM
    simp only [putAll, Act.put, Nat.reduceAdd, List.setIfInBounds_toArray, List.set_cons_zero, List.set_cons_succ]
    obtain ⟨g, hg, hgw, hgb⟩ := Y.out.box rfl
    rw [h8, hg]
    clear h8 hg
    have I3 := Lib.hid (I1.out.below Y.out.S I1.out.lt)
    have S1 := Lib.hid (S0.out.trans (Y.out.S.mono (by omega)))
    have HG := Lib.hid hgb
    clear Y B0 I0 I1 S0 hgb
    go_wp2_with (with_reducible refine stop_load 56 _ rfl rfl ?_)
    refine Stop.mk (wpList_loadB rfl _ _ rfl g rfl _ HG.out strC x.size ?_)
    go_wp2_with (with_reducible refine stS 56 _ _ rfl rfl ?_)
    refine Stop.mk (wsB rfl _ _ _ rfl (w.heap.size + 1) _ rfl rfl _ I3.out strC x.size (by rw [x.size]; rfl) x.ones ?_)
    intro w9 hb9 hk9
    have S3 := Lib.hid (S1.out.trans (hk9.oneB S1.out.size (by omega)))
    clear hk9
    go_wp2_with (fail)
    rw [HE.out]
    exact bodyPost_ret (results_B2 rfl rfl rfl hb9 strC x.size) rfl ⟨_, rfl, x.size, x.ones, S3.out⟩
end Go.Proofs.YtldoedmclfbgpaaDoor
namespace Go.Proofs.YtldoedmclfbgpaaDoor
open Go.RowKit

/-- iB: the row of one is laid; iA: the append; iS: the store. R: what the rest of the memory is, kept by whatever works above B. T: what is kept until the append. -/
structure DM (ps : List (Nat × Nat)) (iL iB iA iS : Nat) (w : World) (s B : Nat) (X : Array Value) (f : Nat) (t : TypeId) (n : Nat) (v : Value) (len : Nat) (xs : List Value) (Nw : List Value → Prop) (R T : World → Prop) (L : Nat → Bool) (u : Nat → Value) (w1 : World) : Prop where
  cS : L iS = true → L iA = true
  cA : L iA = true → L iB = true ∧ L iL = true
  S : Below w.heap.size w w1
  lo : w.heap.size ≤ s
  hs : s < B
  hB : B ≤ w1.heap.size
  blk : Blk w1 s (if L iS = true then X.setIfInBounds f (u iA) else X)
  own : if L iA = true then ∃ nn, Nw nn ∧ w1.ownsRow B t n (u iA) (len + 1) (xs ++ nn) else w1.ownsRow B t n v len xs
  lit : L iB = true → L iA = false → ∃ g nn, Nw nn ∧ u iB = .slice (some ⟨g, 0, none⟩) 1 1 ∧ Src w1 (some ⟨g, 0, none⟩) 1 n nn
  keep : R w1
  top : L iA = false → T w1
  ch : ∀ p ∈ ps, L p.1 = true → L p.2 = true
section
variable {ps : List (Nat × Nat)} {iL iB iA iS : Nat} {w w1 w2 : World} {s B : Nat} {X : Array Value} {f : Nat} {t : TypeId} {n : Nat} {v : Value} {len : Nat} {xs : List Value} {Nw : List Value → Prop} {R T : World → Prop} {L : Nat → Bool} {u : Nat → Value} {j : Nat} {z : Value}
theorem upd_ch {ps : List (Nat × Nat)} {L : Nat → Bool} {j : Nat} (h : ∀ p ∈ ps, L p.1 = true → L p.2 = true) (hj : ∀ p ∈ ps, p.1 = j → L p.2 = true) : ∀ p ∈ ps, upd L j true p.1 = true → upd L j true p.2 = true := by
  intro p hp e
  have key : L p.2 = true := by
    by_cases e1 : p.1 = j
    · exact hj p hp e1
    · rw [upd_other _ _ e1] at e; exact h p hp e
  by_cases e2 : p.2 = j
  · rw [e2]; exact upd_same ..
  · rw [upd_other _ _ e2]; exact key
theorem DM.start (S : Below w.heap.size w w1) (lo : w.heap.size ≤ s) (hs : s < B) (hB : B ≤ w1.heap.size) (b : Blk w1 s X) (o : w1.ownsRow B t n v len xs) (hR : R w1) (hT : T w1) : DM ps iL iB iA iS w s B X f t n v len xs Nw R T (fun _ => false) u w1 :=
  ⟨(fun h => (by first | cases h | simp at h)), (fun h => (by first | cases h | simp at h)), S, lo, hs, hB, b, o, (fun h => (by first | cases h | simp at h)), hR, fun _ => hT, fun _ _ h => (by first | cases h | simp at h)⟩
theorem DM.noA (h : DM ps iL iB iA iS w s B X f t n v len xs Nw R T L u w1) (hb : L iB = false) : L iA = false := by
  cases e : L iA
  · rfl
  · have := (h.cA e).1; rw [hb] at this; cases this
theorem upd_mono {L : Nat → Bool} {i j : Nat} (h : L i = true) : upd L j true i = true := by
  by_cases e : i = j
  · subst e; exact upd_same ..
  · rw [upd_other _ _ e]; exact h
theorem DM.noL (h : DM ps iL iB iA iS w s B X f t n v len xs Nw R T L u w1) (hb : L iL = false) : L iA = false := by
  cases e : L iA
  · rfl
  · have := (h.cA e).2; rw [hb] at this; cases this
theorem DM.no (h : DM ps iL iB iA iS w s B X f t n v len xs Nw R T L u w1) {i k : Nat} (hp : (i, k) ∈ ps) (hb : L k = false) : L i = false := by
  cases e : L i
  · rfl
  · have := h.ch _ hp e; simp only at this; rw [hb] at this; cases this
theorem DM.noS (h : DM ps iL iB iA iS w s B X f t n v len xs Nw R T L u w1) (hb : L iA = false) : L iS = false := by
  cases e : L iS
  · rfl
  · have := h.cS e; rw [hb] at this; cases this
theorem DM.blk0 (h : DM ps iL iB iA iS w s B X f t n v len xs Nw R T L u w1) (hS : L iS = false) : Blk w1 s X := by
  have := h.blk
  rwa [if_neg (by rw [hS]; simp)] at this
theorem DM.own0 (h : DM ps iL iB iA iS w s B X f t n v len xs Nw R T L u w1) (hA : L iA = false) : w1.ownsRow B t n v len xs := by
  have := h.own
  rwa [if_neg (by rw [hA]; simp)] at this
theorem DM.pure (h : DM ps iL iB iA iS w s B X f t n v len xs Nw R T L u w1) (h1 : j ≠ iB) (h2 : j ≠ iA) (h3 : j ≠ iS) (hj : ∀ p ∈ ps, p.1 = j → L p.2 = true) : DM ps iL iB iA iS w s B X f t n v len xs Nw R T (upd L j true) (upd u j z) w1 := by
  have e1 : upd L j true iB = L iB := upd_other _ _ (Ne.symm h1)
  have e2 : upd L j true iA = L iA := upd_other _ _ (Ne.symm h2)
  have e3 : upd L j true iS = L iS := upd_other _ _ (Ne.symm h3)
  have f1 : upd u j z iB = u iB := upd_other _ _ (Ne.symm h1)
  have f2 : upd u j z iA = u iA := upd_other _ _ (Ne.symm h2)
  exact ⟨by rw [e2, e3]; exact h.cS, by rw [e1, e2]; exact fun e => ⟨(h.cA e).1, upd_mono (h.cA e).2⟩, h.S, h.lo, h.hs, h.hB, by rw [e3, f2]; exact h.blk, by rw [e2, f2]; exact h.own, by rw [e1, e2, f1]; exact h.lit, h.keep, by rw [e2]; exact h.top, upd_ch h.ch hj⟩
/-- A call, or memory made, ahead of the append. -/
theorem DM.call (h : DM ps iL iB iA iS w s B X f t n v len xs Nw R T L u w1) (h1 : j ≠ iB) (h2 : j ≠ iA) (h3 : j ≠ iS) (hb : L iB = false) (k : Below w1.heap.size w1 w2) (hR : R w2) (hT : T w2) (hj : ∀ p ∈ ps, p.1 = j → L p.2 = true) : DM ps iL iB iA iS w s B X f t n v len xs Nw R T (upd L j true) (upd u j z) w2 := by
  have hA := h.noA hb
  have hS := h.noS hA
  have e1 : upd L j true iB = false := (upd_other _ _ (Ne.symm h1)).trans hb
  have e2 : upd L j true iA = false := (upd_other _ _ (Ne.symm h2)).trans hA
  have e3 : upd L j true iS = false := (upd_other _ _ (Ne.symm h3)).trans hS
  refine ⟨(fun e => by rw [e3] at e; cases e), (fun e => by rw [e2] at e; cases e), h.S.trans (k.mono h.S.size), h.lo, h.hs, Nat.le_trans h.hB k.size, ?_, ?_, (fun e => by rw [e1] at e; cases e), hR, fun _ => hT, upd_ch h.ch hj⟩
  · rw [if_neg (by rw [e3]; simp)]; exact (h.blk0 hS).below k (h.blk0 hS).lt
  · rw [if_neg (by rw [e2]; simp)]; exact own_below (h.own0 hA) k
theorem DM.make (h : DM ps iL iB iA iS w s B X f t n v len xs Nw R T L u w1) (h12 : iB ≠ iA) (h13 : iB ≠ iS) {news : List Value} (hnw : Nw news) (hb : L iB = false) (hn : news.length = n) (hR : R (w1.alloc (.cells news.toArray t))) (hT : T (w1.alloc (.cells news.toArray t))) (hj : ∀ p ∈ ps, p.1 = iB → L p.2 = true) :
    DM ps iL iB iA iS w s B X f t n v len xs Nw R T (upd L iB true) (upd u iB (.slice (some ⟨w1.heap.size, 0, none⟩) 1 1)) (w1.alloc (.cells news.toArray t)) := by
  have hA := h.noA hb
  have hS := h.noS hA
  have e2 : upd L iB true iA = false := (upd_other _ _ (Ne.symm h12)).trans hA
  have e3 : upd L iB true iS = false := (upd_other _ _ (Ne.symm h13)).trans hS
  have k : Below w1.heap.size w1 (w1.alloc (.cells news.toArray t)) := (Below.refl _ _).alloc (Nat.le_refl _) _
  refine ⟨(fun e => by rw [e3] at e; cases e), (fun e => by rw [e2] at e; cases e), h.S.trans (k.mono h.S.size), h.lo, h.hs, Nat.le_trans h.hB k.size, ?_, ?_, fun _ _ => ⟨w1.heap.size, news, hnw, upd_same .., Src.new w1 news t n hn⟩, hR, fun _ => hT, upd_ch h.ch hj⟩
  · rw [if_neg (by rw [e3]; simp)]; exact (h.blk0 hS).below k (h.blk0 hS).lt
  · rw [if_neg (by rw [e2]; simp)]; exact own_below (h.own0 hA) k
theorem DM.app (h : DM ps iL iB iA iS w s B X f t n v len xs Nw R T L u w1) (h12 : iB ≠ iA) (h23 : iA ≠ iS) (hb : L iB = true) (hl : L iL = true) (hA : L iA = false) {news : List Value} (hnw : Nw news) (o : w2.ownsRow B t n z (len + 1) (xs ++ news)) (k : Below B w1 w2) (hR : R w2) (hj : ∀ p ∈ ps, p.1 = iA → L p.2 = true) :
    DM ps iL iB iA iS w s B X f t n v len xs Nw R T (upd L iA true) (upd u iA z) w2 := by
  have hS := h.noS hA
  have e1 : upd L iA true iB = true := (upd_other _ _ h12).trans hb
  have e2 : upd L iA true iA = true := upd_same ..
  have e3 : upd L iA true iS = false := (upd_other _ _ (Ne.symm h23)).trans hS
  refine ⟨(fun e => by rw [e3] at e; cases e), fun _ => ⟨e1, upd_mono hl⟩, h.S.trans (k.mono (by have := h.lo; have := h.hs; omega)), h.lo, h.hs, Nat.le_trans h.hB k.size, ?_, ?_, (fun _ e => by rw [e2] at e; cases e), hR, (fun e => by rw [e2] at e; cases e), upd_ch h.ch hj⟩
  · rw [if_neg (by rw [e3]; simp)]; exact (h.blk0 hS).below k h.hs
  · rw [if_pos e2, upd_same]; exact ⟨_, hnw, o⟩
theorem DM.put (h : DM ps iL iB iA iS w s B X f t n v len xs Nw R T L u w1) (h13 : iB ≠ iS) (h23 : iA ≠ iS) (hA : L iA = true) (hS : L iS = false) (hR : R (w1.setCell ⟨s, f, none⟩ (u iA))) (hj : ∀ p ∈ ps, p.1 = iS → L p.2 = true) :
    DM ps iL iB iA iS w s B X f t n v len xs Nw R T (upd L iS true) (upd u iS z) (w1.setCell ⟨s, f, none⟩ (u iA)) := by
  have hb := (h.cA hA).1
  have hl := (h.cA hA).2
  have e1 : upd L iS true iB = true := (upd_other _ _ h13).trans hb
  have e2 : upd L iS true iA = true := (upd_other _ _ h23).trans hA
  have e3 : upd L iS true iS = true := upd_same ..
  have f2 : upd u iS z iA = u iA := upd_other _ _ h23
  have k := kept_set w1 s f (u iA)
  have o := h.own
  rw [if_pos hA] at o
  refine ⟨fun _ => e2, fun _ => ⟨e1, upd_mono hl⟩, h.S.trans (k.oneB h.S.size h.lo), h.lo, h.hs, Nat.le_trans h.hB k.size, ?_, ?_, (fun _ e => by rw [e2] at e; cases e), hR, (fun e => by rw [e2] at e; cases e), upd_ch h.ch hj⟩
  · rw [if_pos e3, f2]; exact (h.blk0 hS).store f _
  · rw [if_pos e2, f2]
    obtain ⟨nn, hn, o⟩ := o
    exact ⟨nn, hn, ownB_kept o k h.hs⟩
theorem DM.done {N : Nat} (h : DM ps iL iB iA iS w s B X f t n v len xs Nw R T (fun j => decide (j < N)) u w1) (hS : iS < N) (hA : iA < N) : Blk w1 s (X.setIfInBounds f (u iA)) ∧ ∃ nn, Nw nn ∧ w1.ownsRow B t n (u iA) (len + 1) (xs ++ nn) := by
  have b := h.blk
  have o := h.own
  rw [if_pos (by simpa using hS)] at b
  rw [if_pos (by simpa using hA)] at o
  exact ⟨b, o⟩
end
end Go.Proofs.YtldoedmclfbgpaaDoor
namespace Go.Proofs.YtldoedmclfbgpaaDoor
open Go.RowKit

/-- A slice of a call's own, as a property. -/
def Sp.own {α : Type} (B : Nat) (e : TypeId) (k : Nat) (cs : α → List Value) (l : List α) : Sp := ⟨fun v w => w.ownsRow B e k v l.length (l.flatMap cs), fun _ _ _ h hb => own_below h hb⟩
theorem Sp.own_holds {α : Type} (B : Nat) (e : TypeId) (k : Nat) (cs : α → List Value) (l : List α) (v : Value) (w : World) : (Sp.own B e k cs l).holds v w = w.ownsRow B e k v l.length (l.flatMap cs) := rfl
end Go.Proofs.YtldoedmclfbgpaaDoor
