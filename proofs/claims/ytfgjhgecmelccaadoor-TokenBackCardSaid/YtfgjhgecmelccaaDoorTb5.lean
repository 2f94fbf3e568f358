/-
  Lemmas (walks and plain laws), in one text.
-/
import Derived.Test.YtfgjhgecmelccaaDoorTb4
import Derived.Test.YtfgjhgecmelccaaDoorRows
import Derived.WalkKit
import Derived.WalkSpells
import Derived.WalkLawsBesides
import Derived.Lib.Hide
import Derived.Deep.QuietTactic
import Derived.BigQuiet
import Derived.Maps.AppendAt
import Derived.WalkSmall
import Derived.ProofKit
import Derived.OpenShut
import Derived.JoinedCond
import Derived.Deep.Slices
import Derived.Deep.Fields
import Derived.Carry
import Derived.HandedShaped
import Derived.Shelf.Strings.Builder1
import Derived.Shelf.Strings.Builder2
import Derived.Shelf.Strings.OnBuilder
import Derived.Shelf.Small.Wraps
import Derived.Shelf.Utf8.RuneCount
import Derived.Shelf.Strconv.Itoa0
import Derived.Shelf.Strconv.Itoa1
import Derived.Shelf.LaysM
import Derived.Shelf.Strconv.Itoa2
import Derived.Shelf.Strconv.Itoa3
import Derived.Shelf.Strings.Search1
import Derived.Shelf.Strings.Search2
import Derived.Shelf.Strings.Search3
import Derived.Shelf.Strings.Count
import Derived.Shelf.Strings.Shaped
import Derived.Shelf.Strings.Split
import Derived.Shelf.Strings.SplitShaped
import Derived.Shelf.Unicode.Decode
import Derived.Shelf.Strings.RuneCount
import Derived.Shelf.Strings.Explode
import Derived.Shelf.Unicode.DecodeSlow
import Derived.Test.YtfgjhgecmelccaaDoorProg
import Derived.Deep.AppendSrc
import Derived.Lib.AppendStr
import Derived.Laws.BytesArg
import Derived.Lib.AppendIntMem
import Derived.Lib.ItoaLen
import Derived.Lib.TrailingZeros
import Derived.Lib.SplitLaws
import Derived.Lib.ItoaNum
import Derived.Shelf.Strings.PiecesUse
import Derived.Shelf.Spec.TrailingZeros
import Derived.RangeFuncNested
import Derived.RangeFuncBound
import Derived.RangeFuncCalls
import Derived.RangeFuncLeaves
import Derived.Shelf.Abstract
import Derived.Shelf.RegionOpen
import Derived.OwnWalkIn
import Derived.TacticsInMore
import Derived.LoopNIn
import Derived.LoopIn
import Derived.Test.YtfgjhgecmelccaaDoorTie
import Derived.Lib.LaidTab
import Derived.LaidMore
import Derived.Lay
import Derived.Stop.LaidErr
import Derived.SevenTiedAt
import Derived.Test.YtfgjhgecmelccaaDoorCards
import Derived.Deep.CutBlock
import Derived.Deep.DeepCutAuto
import Derived.Laws.Tables
import Derived.Laws.Rows
import Derived.Laws.CopyOwn
import Derived.Outline
import Derived.IntWalk
import Derived.Lib.EndianBits
import Derived.StillTail
import Derived.Laws.IdiomStrings
import Derived.ChangeKeysEq
import Derived.Laws.StructEq
namespace Go.Proofs.YtfgjhgecmelccaaDoor
open Go.ChangeShapes Go.WideShapes Go.ChangeAt Go.RowKit Go.Deep
open Go.ChangeMaps (open_string shut_string)

theorem list4 {α : Type} {l : List α} (h : l.length = 4) : ∃ a b c d, l = [a, b, c, d] := by
  match l, h with
  | [a, b, c, d], _ => exact ⟨a, b, c, d, rfl⟩
section
variable {H : Type} {enc : TypeId × Value → H} {w : World} {base : Nat} {spare : Nat → Bool} {held : Bool}
theorem c_token : Tryd.prog.cellsOf 72 = 4 := by kernel_rfl
theorem open_token {fuel : Nat} {cs : List Value} {x : DataW H × List MemPlace} (h : DataW.trod enc Tryd.prog w 0 spare held fuel 72 cs = some x) :
    ∃ a : Tok, cs = a.arr.toList := by
  obtain ⟨xs, n, _, _, hl, hxl, hf⟩ := DataW.trod_struct Tryd.underlying72 h
  rw [c_token] at hl
  obtain ⟨q0, q1, q2, q3, rfl⟩ := list4 hl
  obtain ⟨x0, x1, x2, x3, rfl⟩ := list4 (show xs.length = 4 from hxl)
  have h0 := hf 0
  have h1 := hf 1
  have h2 := hf 2
  have h3 := hf 3
  simp [c_int] at h0 h1 h2 h3
  obtain ⟨a0, e0, -, -⟩ := DataW.trod_int Tryd.underlying3 h0
  obtain ⟨a1, e1, -, -⟩ := DataW.trod_int Tryd.underlying3 h1
  obtain ⟨a2, e2, -, -⟩ := DataW.trod_int Tryd.underlying3 h2
  obtain ⟨a3, e3, -, -⟩ := DataW.trod_int Tryd.underlying3 h3
  simp at e0 e1 e2 e3
  subst e0 e1 e2 e3
  exact ⟨⟨a0, a1, a2, a3⟩, rfl⟩
end
end Go.Proofs.YtfgjhgecmelccaaDoor
namespace Go.Proofs.YtfgjhgecmelccaaDoor
open Go.RowKit

/-- The type ty is a struct or an array of n cells. -/
structure Str (P : Program) (ty : TypeId) (n : Nat) : Prop where
  desc : ∃ d, P.underlying ty = some d ∧ (match d with | .struct _ | .array _ _ => true | _ => false) = true
  size : (P.info? ty).map (·.size) = some n
section
variable {P : Program} {w : World}
theorem Kept.one {g : Nat} {w' : World} (h : Kept (some g) w.heap.size w w') {p : Option Nat} {B : Nat} (hB : B ≤ w.heap.size) (hg : B ≤ g ∨ p = some g) : Kept p B w w' :=
  ⟨h.os, h.tape, h.output, h.size, fun k hk hp => h.block k (by omega) (fun e => by
    injection e with e; subst e
    rcases hg with hg | hg
    · omega
    · exact hp hg)⟩
theorem Kept.oneB {g B : Nat} {w' : World} (h : Kept (some g) w.heap.size w w') (hB : B ≤ w.heap.size) (hg : B ≤ g) : Below B w w' := h.below hB (fun k hk => by injection hk with hk; omega)
theorem wpList_loadB {ops : Array Oper} {rest : List Oper} {o : Oper} {a : Act} {Q : Exit → Act → World → Prop} (hgd : o.guard = none) (ty : TypeId) (x : Operand) (ho : o.op = .load ty x)
    (g : Nat) (hx : a.eval x = .pointer (some ⟨g, 0, none⟩)) (cs : Array Value) (hb : Blk w g cs) {n : Nat} (S : Str P ty n) (hn : cs.size = n)
    (h : wpList P ops Q rest (a.put o.dst (.agg cs)) w) : wpList P ops Q (o :: rest) a w := by
  obtain ⟨d, h1, h2⟩ := S.desc
  obtain ⟨t, hb⟩ := hb
  exact wpList_load_row hgd ty x ho g hx t cs (0, 0) d hb h1 (by cases d <;> first | rfl | (simp at h2)) (by rw [S.size, hn]) h
theorem Blk.row {g : Nat} {cs : Array Value} (hb : Blk w g cs) (cells : Array Value) : Blk (w.setRow g cells) g cells ∧ Kept (some g) w.heap.size w (w.setRow g cells) := by
  have hlt := hb.lt
  obtain ⟨t, hb⟩ := hb
  exact ⟨⟨t, setRow_heap w g _ _ t _ hb⟩, ⟨rfl, rfl, rfl, by simp [World.setRow], fun k hk hp => setRow_other w g k _ (fun e => hp (by rw [e]))⟩⟩
theorem wpList_storeB {ops : Array Oper} {rest : List Oper} {o : Oper} {a : Act} {Q : Exit → Act → World → Prop} (hgd : o.guard = none) (ty : TypeId) (x y : Operand) (ho : o.op = .store ty x y)
    (g : Nat) (cells : Array Value) (hx : a.eval x = .pointer (some ⟨g, 0, none⟩)) (hy : a.eval y = .agg cells) (old : Array Value) (hb : Blk w g old) {n : Nat} (S : Str P ty n) (hn : cells.size = n)
    (hold : old.size = cells.size) (h1 : cells.all (·.oneCell') = true)
    (h : ∀ w', Blk w' g cells → Kept (some g) w.heap.size w w' → wpList P ops Q rest (a.put o.dst undef) w') : wpList P ops Q (o :: rest) a w := by
  obtain ⟨k1, k2⟩ := hb.row cells
  obtain ⟨t, hb⟩ := hb
  exact wpList_store_row hgd ty x y ho g cells hx hy t old hb (by rw [S.size, hn]) hold h1 (h _ k1 k2)
/-- The walk stands still at a read, at a store of a value of type ty. -/
theorem stop_load {ops : Array Oper} {rest : List Oper} {o : Oper} {a : Act} {Q : Exit → Act → World → Prop} (ty : TypeId) (x : Operand) (_ : o.guard = none) (_ : o.op = .load ty x) (h : Stop (wpList P ops Q (o :: rest) a w)) : wpList P ops Q (o :: rest) a w := h
theorem stop_store {ops : Array Oper} {rest : List Oper} {o : Oper} {a : Act} {Q : Exit → Act → World → Prop} (ty : TypeId) (x y : Operand) (_ : o.guard = none) (_ : o.op = .store ty x y) (h : Stop (wpList P ops Q (o :: rest) a w)) : wpList P ops Q (o :: rest) a w := h
theorem results_B {fn : Func} {p : Tmp} {ty : TypeId} (h : fn.results = #[.cell p ty]) {tmps : Array Value} {g : Nat} {cs : Array Value} (hp : tmps.getD p undef = .pointer (some ⟨g, 0, none⟩)) (hb : Blk w g cs) {n : Nat} (S : Str P ty n) (hn : cs.size = n) :
    (results fn tmps).run P w = .ok (.agg cs) w := by
  obtain ⟨d, h1, h2⟩ := S.desc
  obtain ⟨t, hb⟩ := hb
  exact results_cell_row h tmps w g t cs (0, 0) d hp hb h1 (by cases d <;> first | rfl | (simp at h2)) (by rw [S.size, hn])
end
end Go.Proofs.YtfgjhgecmelccaaDoor
namespace Go.Proofs.YtfgjhgecmelccaaDoor
open Go.RowKit

/-- A world behind the making of one block, in which that block is as it was made. -/
def At (w w' : World) (cs : Array Value) : Prop := Below w.heap.size w w' ∧ Blk w' w.heap.size cs
theorem At.new (w : World) (t : TypeId) (cs : Array Value) : At w (w.alloc (.cells cs t)) cs := ⟨(Below.refl _ _).alloc (Nat.le_refl _) _, Blk.new _ _ _⟩
theorem At.step {w w1 w2 : World} {cs : Array Value} (h : At w w1 cs) (hb : Below w1.heap.size w1 w2) : At w w2 cs := ⟨h.1.trans (hb.mono h.1.size), h.2.below hb h.2.lt⟩
theorem At.alloc {w w1 : World} {cs : Array Value} (h : At w w1 cs) (o : Obj) : At w (w1.alloc o) cs := h.step ((Below.refl _ _).alloc (Nat.le_refl _) o)
end Go.Proofs.YtfgjhgecmelccaaDoor
namespace Go.Proofs.YtfgjhgecmelccaaDoor
open Go.RowKit

/-- A world behind the making of two blocks, in which they are as they were made. -/
def At2 (w w' : World) (cs ds : Array Value) : Prop := Below w.heap.size w w' ∧ Blk w' w.heap.size cs ∧ Blk w' (w.heap.size + 1) ds
theorem At2.new (w : World) (s t : TypeId) (cs ds : Array Value) : At2 w ((w.alloc (.cells cs s)).alloc (.cells ds t)) cs ds := by
  have h := (At.new w s cs).alloc (.cells ds t)
  refine ⟨h.1, h.2, ?_⟩
  have := Blk.new (w.alloc (.cells cs s)) t ds
  simpa using this
theorem At2.step {w w1 w2 : World} {cs ds : Array Value} (h : At2 w w1 cs ds) (hb : Below w1.heap.size w1 w2) : At2 w w2 cs ds := ⟨h.1.trans (hb.mono h.1.size), h.2.1.below hb h.2.1.lt, h.2.2.below hb h.2.2.lt⟩
end Go.Proofs.YtfgjhgecmelccaaDoor
namespace Go.Proofs.YtfgjhgecmelccaaDoor
open Go.RowKit

theorem results_B2 {P : Program} {w : World} {fn : Func} {p s : Tmp} {ty : TypeId} (h : fn.results = #[.cell p ty, .tmp s]) {tmps : Array Value} {g : Nat} {cs : Array Value} {v : Value} (hp : tmps.getD p undef = .pointer (some ⟨g, 0, none⟩)) (hv : tmps.getD s undef = v) (hb : Blk w g cs) {n : Nat} (S : Str P ty n) (hn : cs.size = n) :
    (results fn tmps).run P w = .ok (.tuple #[.agg cs, v]) w := by
  obtain ⟨d, h1, h2⟩ := S.desc
  obtain ⟨t, hb⟩ := hb
  have hl := run_loadVar_row (P := P) w g t ty cs (0, 0) d hb h1 (by cases d <;> first | rfl | (simp at h2)) (by rw [S.size, hn])
  have hp' : tmps[p]?.getD undef = .pointer (some ⟨g, 0, none⟩) := by simpa using hp
  have hv' : tmps[s]?.getD undef = v := by simpa using hv
  simp [results, h, hp', hv', asAddr, hl]
theorem fresh_below {w w' : World} {o : Obj} (hk : Kept (some w.heap.size) (w.alloc o).heap.size (w.alloc o) w') : Below w.heap.size w w' := ((Below.refl _ _).alloc (Nat.le_refl _) _).trans (hk.oneB (by simp) (Nat.le_refl _))
/-- The first block of a call's own is made. -/
theorem At.go {P : Program} {ops : Array Oper} {l : List Oper} {a : Act} {Q : Exit → Act → World → Prop} {t : TypeId} {w : World} {cs : Array Value} (h : ∀ w', At w w' cs → w'.heap.size = w.heap.size + 1 → wpList P ops Q l a w') :
    wpList P ops Q l a (w.alloc (.cells cs t)) := h _ (At.new w t cs) (by simp)
theorem At.as {w w' : World} {cs ds : Array Value} (h : At w w' cs) (e : cs = ds) : At w w' ds := e ▸ h
theorem At.kept {w w1 w2 : World} {cs : Array Value} (h : At w w1 cs) {q : Nat} (hq : w.heap.size < q) (k : Kept (some q) w1.heap.size w1 w2) : At w w2 cs :=
  ⟨h.1.trans (k.oneB h.1.size (by omega)), h.2.kept k h.2.lt (fun e => by injection e with e; omega)⟩
theorem At.lt {w w' : World} {cs : Array Value} (h : At w w' cs) : w.heap.size < w'.heap.size := h.2.lt
end Go.Proofs.YtfgjhgecmelccaaDoor
namespace Go.Proofs.YtfgjhgecmelccaaDoor
open Go.RowKit

theorem strTk : Str Tryd.prog 72 4 := ⟨⟨_, Tryd.underlying72, rfl⟩, by kernel_rfl⟩
theorem str4i : Str Tryd.prog 138 4 := ⟨⟨_, Tryd.underlying138, rfl⟩, by kernel_rfl⟩
theorem tok_cells {w : World} {g : Nat} {a : Tok} (h : Blk w g a.arr) :
    w.cell? ⟨g, 0, none⟩ = some (.int .i64 a.dev) ∧ w.cell? ⟨g, 1, none⟩ = some (.int .i64 a.epoch) ∧ w.cell? ⟨g, 2, none⟩ = some (.int .i64 a.seq) ∧ w.cell? ⟨g, 3, none⟩ = some (.int .i64 a.cursor) := ⟨h.cell rfl, h.cell rfl, h.cell rfl, h.cell rfl⟩
abbrev most4 : Array Value := #[.int .i64 5, .int .i64 1099511627776, .int .i64 1099511627776, .int .i64 1073741824]
set_option maxHeartbeats 400000 in
theorem c_token_most (w : World) : Calls Tryd.prog 93 #[] w (RetV w (.agg most4)) := by
  go_enter Tryd.func93, Tryd.ntmps93
  go_wp2_with (with_reducible refine stop_store 138 (.tmp 0) (.tmp 1) rfl rfl ?_)
  refine Stop.mk (wpList_storeB rfl _ _ _ rfl w.heap.size _ rfl rfl _ (Blk.new _ _ _) str4i rfl rfl (by simp [Value.oneCell']) ?_)
  intro w2 hb2 hk2
  go_wp2_with (fail)
  exact bodyPost_ret (results_B rfl rfl hb2 str4i rfl) rfl ⟨rfl, fresh_below hk2⟩
set_option maxHeartbeats 400000 in
theorem c_token_parts (t : Tok) (w : World) : Calls Tryd.prog 98 #[.agg t.arr] w (RetV w (.agg t.arr)) := by
  have B0 := Lib.hid (At2.new w 72 138 t.arr #[.int .i64 0, .int .i64 0, .int .i64 0, .int .i64 0])
  obtain ⟨q0, q1, q2, q3⟩ := tok_cells B0.out.2.1
  go_enter Tryd.func98, Tryd.ntmps98
  go_wp2_with (with_reducible refine stop_store 138 (.tmp 2) (.tmp 11) rfl rfl ?_)
  refine Stop.mk (wpList_storeB rfl _ _ _ rfl (w.heap.size + 1) _ (by first | rfl | simp) rfl _ B0.out.2.2 str4i rfl rfl (by simp [Value.oneCell']) ?_)
  intro w2 hb2 hk2
  have hz := B0.out.1.size
  go_wp2_with (fail)
  exact bodyPost_ret (results_B (g := w.heap.size + 1) rfl (by first | rfl | simp) hb2 str4i rfl) rfl ⟨rfl, B0.out.1.trans (hk2.oneB hz (by omega))⟩
set_option maxHeartbeats 400000 in
theorem c_token_of (t : Tok) (w : World) : Calls Tryd.prog 95 #[.agg t.arr] w (RetV w (.agg t.arr)) := by
  have B0 := Lib.hid (At2.new w 138 72 t.arr #[.int .i64 0, .int .i64 0, .int .i64 0, .int .i64 0])
  obtain ⟨q0, q1, q2, q3⟩ := tok_cells B0.out.2.1
  go_enter Tryd.func95, Tryd.ntmps95
  go_wp2_with (with_reducible refine stop_store 72 (.tmp 2) (.tmp 11) rfl rfl ?_)
  refine Stop.mk (wpList_storeB rfl _ _ _ rfl (w.heap.size + 1) _ (by first | rfl | simp) rfl _ B0.out.2.2 strTk rfl rfl (by simp [Value.oneCell']) ?_)
  intro w2 hb2 hk2
  have hz := B0.out.1.size
  go_wp2_with (fail)
  exact bodyPost_ret (results_B (g := w.heap.size + 1) rfl (by first | rfl | simp) hb2 strTk rfl) rfl ⟨rfl, B0.out.1.trans (hk2.oneB hz (by omega))⟩
end Go.Proofs.YtfgjhgecmelccaaDoor
namespace Go.Proofs.YtfgjhgecmelccaaDoor
open Go.RowKit

/-- Blocks from number B on, each known whole, no two the same. -/
def Blks (w : World) (B : Nat) : List (Nat × Array Value) → Prop
  | [] => True
  | x :: r => (Blk w x.1 x.2 ∧ B ≤ x.1 ∧ ∀ y ∈ r, y.1 ≠ x.1) ∧ Blks w B r
section
variable {w w' : World} {B : Nat} {l : List (Nat × Array Value)}
theorem Blks.kept {q : Option Nat} (h : Blks w B l) (k : Kept q w.heap.size w w') (hq : ∀ g, q = some g → g < B) : Blks w' B l := by
  induction l with
  | nil => trivial
  | cons x r ih =>
    obtain ⟨⟨h1, h2, h3⟩, h4⟩ := h
    exact ⟨⟨h1.kept k h1.lt (fun e => by have := hq _ e; omega), h2, h3⟩, ih h4⟩
theorem Blks.far {q : Nat} (h : Blks w B l) (k : Kept (some q) w.heap.size w w') (hq : ∀ y ∈ l, y.1 ≠ q) : Blks w' B l := by
  induction l with
  | nil => trivial
  | cons x r ih =>
    obtain ⟨⟨h1, h2, h3⟩, h4⟩ := h
    exact ⟨⟨h1.kept k h1.lt (fun e => by injection e with e; exact hq x (List.mem_cons_self ..) e.symm), h2, h3⟩, ih h4 (fun y hy => hq y (List.mem_cons_of_mem _ hy))⟩
theorem Blks.lt (h : Blks w B l) : ∀ y ∈ l, y.1 < w.heap.size := by
  induction l with
  | nil => intro y hy; cases hy
  | cons x r ih =>
    intro y hy
    rcases List.mem_cons.1 hy with rfl | hy
    · exact h.1.1.lt
    · exact ih h.2 y hy
end
theorem kept_set (w : World) (g off : Nat) (v : Value) : Kept (some g) w.heap.size w (w.setCell ⟨g, off, none⟩ v) := (Kept.refl (some g) _ w).setCell (q := ⟨g, off, none⟩) (.inr rfl) v
/-- The program's reader, and blocks of the call's own. -/
structure EnvP (p : Option Nat) (S : Rd) (w w' : World) (l : List (Nat × Array Value)) : Prop where
  low : ∀ g, p = some g → g < w.heap.size
  kept : Kept p w.heap.size w w'
  rd : RdP w' p S
  blks : Blks w' w.heap.size l
section
variable {p : Option Nat} {S S' : Rd} {w w1 w2 : World} {l : List (Nat × Array Value)} {g g0 : Nat} {cs c0 cs' : Array Value}
theorem EnvP.start (r : RdP w p S) : EnvP p S w w [] := ⟨fun _ hg => r.lt hg, Kept.refl _ _ _, r, trivial⟩
theorem EnvP.size (h : EnvP p S w w1 l) : w.heap.size ≤ w1.heap.size := h.kept.size
theorem EnvP.call (h : EnvP p S w w1 l) (r : RdP w2 p S') (k : Kept p w1.heap.size w1 w2) : EnvP p S' w w2 l :=
  ⟨h.low, h.kept.then_kept k h.size, r, h.blks.kept k h.low⟩
theorem EnvP.below (h : EnvP p S w w1 l) (k : Below w1.heap.size w1 w2) : EnvP p S w w2 l :=
  ⟨h.low, h.kept.then_below k h.size, h.rd.below k, h.blks.kept (q := none) (.of_below k) (fun _ e => by cases e)⟩
theorem EnvP.alloc (h : EnvP p S w w1 l) (t : TypeId) (cs : Array Value) : EnvP p S w (w1.alloc (.cells cs t)) ((w1.heap.size, cs) :: l) := by
  have h' := h.below ((Below.refl _ _).alloc (Nat.le_refl _) (.cells cs t))
  exact ⟨h.low, h'.kept, h'.rd, ⟨Blk.new _ _ _, h.size, fun y hy => by have := h.blks.lt y hy; simp only; omega⟩, h'.blks⟩
theorem EnvP.own (h : EnvP p S w w1 l) (hg : w.heap.size ≤ g) (k : Kept (some g) w1.heap.size w1 w2) : Kept p w.heap.size w w2 ∧ RdP w2 p S :=
  ⟨h.kept.trans (k.one h.size (.inl hg)), h.rd.kept k (fun a b ha hb => by injection hb with hb; have := h.low a ha; omega)⟩
theorem EnvP.put0 (h : EnvP p S w w1 ((g, cs) :: l)) (b : Blk w2 g cs') (k : Kept (some g) w1.heap.size w1 w2) : EnvP p S w w2 ((g, cs') :: l) := by
  obtain ⟨⟨h1, h2, h3⟩, h4⟩ := h.blks
  obtain ⟨a, r⟩ := h.own h2 k
  exact ⟨h.low, a, r, ⟨b, h2, h3⟩, h4.far k h3⟩
theorem EnvP.put1 (h : EnvP p S w w1 ((g0, c0) :: (g, cs) :: l)) (b : Blk w2 g cs') (k : Kept (some g) w1.heap.size w1 w2) : EnvP p S w w2 ((g0, c0) :: (g, cs') :: l) := by
  obtain ⟨⟨a1, a2, a3⟩, ⟨h1, h2, h3⟩, h4⟩ := h.blks
  obtain ⟨a, r⟩ := h.own h2 k
  have hne := a3 (g, cs) (List.mem_cons_self ..)
  refine ⟨h.low, a, r, ⟨a1.kept k a1.lt (fun e => by injection e with e; exact hne e), a2, fun y hy => ?_⟩, ⟨b, h2, h3⟩, h4.far k h3⟩
  rcases List.mem_cons.1 hy with rfl | hy
  · exact hne
  · exact a3 y (List.mem_cons_of_mem _ hy)
theorem EnvP.b0 (h : EnvP p S w w1 ((g, cs) :: l)) : Blk w1 g cs := h.blks.1.1
theorem EnvP.b1 (h : EnvP p S w w1 ((g0, c0) :: (g, cs) :: l)) : Blk w1 g cs := h.blks.2.1.1
theorem EnvP.store1 (h : EnvP p S w w1 ((g0, c0) :: (g, cs) :: l)) (off : Nat) (v : Value) : EnvP p S w (w1.setCell ⟨g, off, none⟩ v) ((g0, c0) :: (g, cs.setIfInBounds off v) :: l) := h.put1 (h.b1.store off v) (kept_set w1 g off v)
theorem EnvP.as (h : EnvP p S w w1 ((g, cs) :: l)) (e : cs = cs') : EnvP p S w w1 ((g, cs') :: l) := e ▸ h
theorem EnvP.state (h : EnvP p S w w1 l) (e : S = S') : EnvP p S' w w1 l := e ▸ h
end
/-- The reference's reader, and blocks of the call's own. -/
structure EnvR (p : Nat) (S : Rd) (w w' : World) (l : List (Nat × Array Value)) : Prop where
  low : p < w.heap.size
  kept : Kept (some p) w.heap.size w w'
  rd : RdR w' p S
  blks : Blks w' w.heap.size l
section
variable {p : Nat} {S S' : Rd} {w w1 w2 : World} {l : List (Nat × Array Value)} {g g0 : Nat} {cs c0 cs' : Array Value}
theorem EnvR.start (r : RdR w p S) : EnvR p S w w [] := ⟨r.lt, Kept.refl _ _ _, r, trivial⟩
theorem EnvR.size (h : EnvR p S w w1 l) : w.heap.size ≤ w1.heap.size := h.kept.size
theorem EnvR.call (h : EnvR p S w w1 l) (r : RdR w2 p S') (k : Kept (some p) w1.heap.size w1 w2) : EnvR p S' w w2 l :=
  ⟨h.low, h.kept.then_kept k h.size, r, h.blks.kept k (fun g e => by injection e with e; have := h.low; omega)⟩
theorem EnvR.below (h : EnvR p S w w1 l) (k : Below w1.heap.size w1 w2) : EnvR p S w w2 l :=
  ⟨h.low, h.kept.then_below k h.size, h.rd.below k, h.blks.kept (q := none) (.of_below k) (fun _ e => by cases e)⟩
theorem EnvR.alloc (h : EnvR p S w w1 l) (t : TypeId) (cs : Array Value) : EnvR p S w (w1.alloc (.cells cs t)) ((w1.heap.size, cs) :: l) := by
  have h' := h.below ((Below.refl _ _).alloc (Nat.le_refl _) (.cells cs t))
  exact ⟨h.low, h'.kept, h'.rd, ⟨Blk.new _ _ _, h.size, fun y hy => by have := h.blks.lt y hy; simp only; omega⟩, h'.blks⟩
theorem EnvR.own (h : EnvR p S w w1 l) (hg : w.heap.size ≤ g) (k : Kept (some g) w1.heap.size w1 w2) : Kept (some p) w.heap.size w w2 ∧ RdR w2 p S :=
  ⟨h.kept.trans (k.one h.size (.inl hg)), h.rd.kept k (fun e => by injection e with e; have := h.low; omega)⟩
theorem EnvR.put0 (h : EnvR p S w w1 ((g, cs) :: l)) (b : Blk w2 g cs') (k : Kept (some g) w1.heap.size w1 w2) : EnvR p S w w2 ((g, cs') :: l) := by
  obtain ⟨⟨h1, h2, h3⟩, h4⟩ := h.blks
  obtain ⟨a, r⟩ := h.own h2 k
  exact ⟨h.low, a, r, ⟨b, h2, h3⟩, h4.far k h3⟩
theorem EnvR.put1 (h : EnvR p S w w1 ((g0, c0) :: (g, cs) :: l)) (b : Blk w2 g cs') (k : Kept (some g) w1.heap.size w1 w2) : EnvR p S w w2 ((g0, c0) :: (g, cs') :: l) := by
  obtain ⟨⟨a1, a2, a3⟩, ⟨h1, h2, h3⟩, h4⟩ := h.blks
  obtain ⟨a, r⟩ := h.own h2 k
  have hne := a3 (g, cs) (List.mem_cons_self ..)
  refine ⟨h.low, a, r, ⟨a1.kept k a1.lt (fun e => by injection e with e; exact hne e), a2, fun y hy => ?_⟩, ⟨b, h2, h3⟩, h4.far k h3⟩
  rcases List.mem_cons.1 hy with rfl | hy
  · exact hne
  · exact a3 y (List.mem_cons_of_mem _ hy)
theorem EnvR.b0 (h : EnvR p S w w1 ((g, cs) :: l)) : Blk w1 g cs := h.blks.1.1
theorem EnvR.b1 (h : EnvR p S w w1 ((g0, c0) :: (g, cs) :: l)) : Blk w1 g cs := h.blks.2.1.1
theorem EnvR.store1 (h : EnvR p S w w1 ((g0, c0) :: (g, cs) :: l)) (off : Nat) (v : Value) : EnvR p S w (w1.setCell ⟨g, off, none⟩ v) ((g0, c0) :: (g, cs.setIfInBounds off v) :: l) := h.put1 (h.b1.store off v) (kept_set w1 g off v)
theorem EnvR.as (h : EnvR p S w w1 ((g, cs) :: l)) (e : cs = cs') : EnvR p S w w1 ((g, cs') :: l) := e ▸ h
theorem EnvR.state (h : EnvR p S w w1 l) (e : S = S') : EnvR p S' w w1 l := e ▸ h
end
end Go.Proofs.YtfgjhgecmelccaaDoor
