/-
  Lemmas (walks and plain laws), in one text.
-/
import Derived.Test.YtfgjhgecmelccaaDoorTt4
import Derived.Test.YtfgjhgecmelccaaDoorRows
import Derived.WalkKit
import Derived.WalkSpells
import Derived.WalkLawsBesides
import Derived.Lib.Hide
import Derived.Deep.QuietTactic
import Derived.BigQuiet
import Derived.Maps.AppendAt
import Derived.WalkSmall
import Derived.ProofKit
import Derived.OpenShut
import Derived.JoinedCond
import Derived.Deep.Slices
import Derived.Deep.Fields
import Derived.Carry
import Derived.HandedShaped
import Derived.Shelf.Strings.Builder1
import Derived.Shelf.Strings.Builder2
import Derived.Shelf.Strings.OnBuilder
import Derived.Shelf.Small.Wraps
import Derived.Shelf.Utf8.RuneCount
import Derived.Shelf.Strconv.Itoa0
import Derived.Shelf.Strconv.Itoa1
import Derived.Shelf.LaysM
import Derived.Shelf.Strconv.Itoa2
import Derived.Shelf.Strconv.Itoa3
import Derived.Shelf.Strings.Search1
import Derived.Shelf.Strings.Search2
import Derived.Shelf.Strings.Search3
import Derived.Shelf.Strings.Count
import Derived.Shelf.Strings.Shaped
import Derived.Shelf.Strings.Split
import Derived.Shelf.Strings.SplitShaped
import Derived.Shelf.Unicode.Decode
import Derived.Shelf.Strings.RuneCount
import Derived.Shelf.Strings.Explode
import Derived.Shelf.Unicode.DecodeSlow
import Derived.Test.YtfgjhgecmelccaaDoorProg
import Derived.Deep.AppendSrc
import Derived.Lib.AppendStr
import Derived.Laws.BytesArg
import Derived.Lib.AppendIntMem
import Derived.Lib.ItoaLen
import Derived.Lib.TrailingZeros
import Derived.Lib.SplitLaws
import Derived.Lib.ItoaNum
import Derived.Shelf.Strings.PiecesUse
import Derived.Shelf.Spec.TrailingZeros
import Derived.RangeFuncNested
import Derived.RangeFuncBound
import Derived.RangeFuncCalls
import Derived.RangeFuncLeaves
import Derived.Shelf.Abstract
import Derived.Shelf.RegionOpen
import Derived.OwnWalkIn
import Derived.TacticsInMore
import Derived.LoopNIn
import Derived.LoopIn
import Derived.Test.YtfgjhgecmelccaaDoorTie
import Derived.Lib.LaidTab
import Derived.LaidMore
import Derived.Lay
import Derived.Stop.LaidErr
import Derived.SevenTiedAt
import Derived.Test.YtfgjhgecmelccaaDoorCards
import Derived.Deep.CutBlock
import Derived.Deep.DeepCutAuto
import Derived.Laws.Tables
import Derived.Laws.Rows
import Derived.Laws.CopyOwn
import Derived.Outline
import Derived.IntWalk
import Derived.Lib.EndianBits
import Derived.StillTail
import Derived.Laws.IdiomStrings
import Derived.ChangeKeysEq
import Derived.Laws.StructEq
namespace Go.Proofs.YtfgjhgecmelccaaDoor
open Go.RowKit

theorem results_B2 {P : Program} {w : World} {fn : Func} {p s : Tmp} {ty : TypeId} (h : fn.results = #[.cell p ty, .tmp s]) {tmps : Array Value} {g : Nat} {cs : Array Value} {v : Value} (hp : tmps.getD p undef = .pointer (some ⟨g, 0, none⟩)) (hv : tmps.getD s undef = v) (hb : Blk w g cs) {n : Nat} (S : Str P ty n) (hn : cs.size = n) :
    (results fn tmps).run P w = .ok (.tuple #[.agg cs, v]) w := by
  obtain ⟨d, h1, h2⟩ := S.desc
  obtain ⟨t, hb⟩ := hb
  have hl := run_loadVar_row (P := P) w g t ty cs (0, 0) d hb h1 (by cases d <;> first | rfl | (simp at h2)) (by rw [S.size, hn])
  have hp' : tmps[p]?.getD undef = .pointer (some ⟨g, 0, none⟩) := by simpa using hp
  have hv' : tmps[s]?.getD undef = v := by simpa using hv
  simp [results, h, hp', hv', asAddr, hl]
theorem fresh_below {w w' : World} {o : Obj} (hk : Kept (some w.heap.size) (w.alloc o).heap.size (w.alloc o) w') : Below w.heap.size w w' := ((Below.refl _ _).alloc (Nat.le_refl _) _).trans (hk.oneB (by simp) (Nat.le_refl _))
/-- The first block of a call's own is made. -/
theorem At.go {P : Program} {ops : Array Oper} {l : List Oper} {a : Act} {Q : Exit → Act → World → Prop} {t : TypeId} {w : World} {cs : Array Value} (h : ∀ w', At w w' cs → w'.heap.size = w.heap.size + 1 → wpList P ops Q l a w') :
    wpList P ops Q l a (w.alloc (.cells cs t)) := h _ (At.new w t cs) (by simp)
theorem At.as {w w' : World} {cs ds : Array Value} (h : At w w' cs) (e : cs = ds) : At w w' ds := e ▸ h
theorem At.kept {w w1 w2 : World} {cs : Array Value} (h : At w w1 cs) {q : Nat} (hq : w.heap.size < q) (k : Kept (some q) w1.heap.size w1 w2) : At w w2 cs :=
  ⟨h.1.trans (k.oneB h.1.size (by omega)), h.2.kept k h.2.lt (fun e => by injection e with e; omega)⟩
theorem At.lt {w w' : World} {cs : Array Value} (h : At w w' cs) : w.heap.size < w'.heap.size := h.2.lt
end Go.Proofs.YtfgjhgecmelccaaDoor
namespace Go.Proofs.YtfgjhgecmelccaaDoor
open Go.RowKit

theorem strTk : Str Tryd.prog 72 4 := ⟨⟨_, Tryd.underlying72, rfl⟩, by kernel_rfl⟩
theorem str4i : Str Tryd.prog 138 4 := ⟨⟨_, Tryd.underlying138, rfl⟩, by kernel_rfl⟩
theorem tok_cells {w : World} {g : Nat} {a : Tok} (h : Blk w g a.arr) :
    w.cell? ⟨g, 0, none⟩ = some (.int .i64 a.dev) ∧ w.cell? ⟨g, 1, none⟩ = some (.int .i64 a.epoch) ∧ w.cell? ⟨g, 2, none⟩ = some (.int .i64 a.seq) ∧ w.cell? ⟨g, 3, none⟩ = some (.int .i64 a.cursor) := ⟨h.cell rfl, h.cell rfl, h.cell rfl, h.cell rfl⟩
abbrev most4 : Array Value := #[.int .i64 5, .int .i64 1099511627776, .int .i64 1099511627776, .int .i64 1073741824]
set_option maxHeartbeats 400000 in
theorem c_token_most (w : World) : Calls Tryd.prog 93 #[] w (RetV w (.agg most4)) := by
  go_enter Tryd.func93, Tryd.ntmps93
  go_wp2_with (with_reducible refine stop_store 138 (.tmp 0) (.tmp 1) rfl rfl ?_)
  refine Stop.mk (wpList_storeB rfl _ _ _ rfl w.heap.size _ rfl rfl _ (Blk.new _ _ _) str4i rfl rfl (by simp [Value.oneCell']) ?_)
  intro w2 hb2 hk2
  go_wp2_with (fail)
  exact bodyPost_ret (results_B rfl rfl hb2 str4i rfl) rfl ⟨rfl, fresh_below hk2⟩
set_option maxHeartbeats 400000 in
theorem c_token_parts (t : Tok) (w : World) : Calls Tryd.prog 98 #[.agg t.arr] w (RetV w (.agg t.arr)) := by
  have B0 := Lib.hid (At2.new w 72 138 t.arr #[.int .i64 0, .int .i64 0, .int .i64 0, .int .i64 0])
  obtain ⟨q0, q1, q2, q3⟩ := tok_cells B0.out.2.1
  go_enter Tryd.func98, Tryd.ntmps98
  go_wp2_with (with_reducible refine stop_store 138 (.tmp 2) (.tmp 11) rfl rfl ?_)
  refine Stop.mk (wpList_storeB rfl _ _ _ rfl (w.heap.size + 1) _ (by first | rfl | simp) rfl _ B0.out.2.2 str4i rfl rfl (by simp [Value.oneCell']) ?_)
  intro w2 hb2 hk2
  have hz := B0.out.1.size
  go_wp2_with (fail)
  exact bodyPost_ret (results_B (g := w.heap.size + 1) rfl (by first | rfl | simp) hb2 str4i rfl) rfl ⟨rfl, B0.out.1.trans (hk2.oneB hz (by omega))⟩
set_option maxHeartbeats 400000 in
theorem c_token_of (t : Tok) (w : World) : Calls Tryd.prog 95 #[.agg t.arr] w (RetV w (.agg t.arr)) := by
  have B0 := Lib.hid (At2.new w 138 72 t.arr #[.int .i64 0, .int .i64 0, .int .i64 0, .int .i64 0])
  obtain ⟨q0, q1, q2, q3⟩ := tok_cells B0.out.2.1
  go_enter Tryd.func95, Tryd.ntmps95
  go_wp2_with (with_reducible refine stop_store 72 (.tmp 2) (.tmp 11) rfl rfl ?_)
  refine Stop.mk (wpList_storeB rfl _ _ _ rfl (w.heap.size + 1) _ (by first | rfl | simp) rfl _ B0.out.2.2 strTk rfl rfl (by simp [Value.oneCell']) ?_)
  intro w2 hb2 hk2
  have hz := B0.out.1.size
  go_wp2_with (fail)
  exact bodyPost_ret (results_B (g := w.heap.size + 1) rfl (by first | rfl | simp) hb2 strTk rfl) rfl ⟨rfl, B0.out.1.trans (hk2.oneB hz (by omega))⟩
end Go.Proofs.YtfgjhgecmelccaaDoor
namespace Go.Proofs.YtfgjhgecmelccaaDoor
open Go.RowKit

/-- Blocks from number B on, each known whole, no two the same. -/
def Blks (w : World) (B : Nat) : List (Nat × Array Value) → Prop
  | [] => True
  | x :: r => (Blk w x.1 x.2 ∧ B ≤ x.1 ∧ ∀ y ∈ r, y.1 ≠ x.1) ∧ Blks w B r
section
variable {w w' : World} {B : Nat} {l : List (Nat × Array Value)}
theorem Blks.kept {q : Option Nat} (h : Blks w B l) (k : Kept q w.heap.size w w') (hq : ∀ g, q = some g → g < B) : Blks w' B l := by
  induction l with
  | nil => trivial
  | cons x r ih =>
    obtain ⟨⟨h1, h2, h3⟩, h4⟩ := h
    exact ⟨⟨h1.kept k h1.lt (fun e => by have := hq _ e; omega), h2, h3⟩, ih h4⟩
theorem Blks.far {q : Nat} (h : Blks w B l) (k : Kept (some q) w.heap.size w w') (hq : ∀ y ∈ l, y.1 ≠ q) : Blks w' B l := by
  induction l with
  | nil => trivial
  | cons x r ih =>
    obtain ⟨⟨h1, h2, h3⟩, h4⟩ := h
    exact ⟨⟨h1.kept k h1.lt (fun e => by injection e with e; exact hq x (List.mem_cons_self ..) e.symm), h2, h3⟩, ih h4 (fun y hy => hq y (List.mem_cons_of_mem _ hy))⟩
theorem Blks.lt (h : Blks w B l) : ∀ y ∈ l, y.1 < w.heap.size := by
  induction l with
  | nil => intro y hy; cases hy
  | cons x r ih =>
    intro y hy
    rcases List.mem_cons.1 hy with rfl | hy
    · exact h.1.1.lt
    · exact ih h.2 y hy
end
theorem kept_set (w : World) (g off : Nat) (v : Value) : Kept (some g) w.heap.size w (w.setCell ⟨g, off, none⟩ v) := (Kept.refl (some g) _ w).setCell (q := ⟨g, off, none⟩) (.inr rfl) v
/-- The program's reader, and blocks of the call's own. -/
structure EnvP (p : Option Nat) (S : Rd) (w w' : World) (l : List (Nat × Array Value)) : Prop where
  low : ∀ g, p = some g → g < w.heap.size
  kept : Kept p w.heap.size w w'
  rd : RdP w' p S
  blks : Blks w' w.heap.size l
section
variable {p : Option Nat} {S S' : Rd} {w w1 w2 : World} {l : List (Nat × Array Value)} {g g0 : Nat} {cs c0 cs' : Array Value}
theorem EnvP.start (r : RdP w p S) : EnvP p S w w [] := ⟨fun _ hg => r.lt hg, Kept.refl _ _ _, r, trivial⟩
theorem EnvP.size (h : EnvP p S w w1 l) : w.heap.size ≤ w1.heap.size := h.kept.size
theorem EnvP.call (h : EnvP p S w w1 l) (r : RdP w2 p S') (k : Kept p w1.heap.size w1 w2) : EnvP p S' w w2 l :=
  ⟨h.low, h.kept.then_kept k h.size, r, h.blks.kept k h.low⟩
theorem EnvP.below (h : EnvP p S w w1 l) (k : Below w1.heap.size w1 w2) : EnvP p S w w2 l :=
  ⟨h.low, h.kept.then_below k h.size, h.rd.below k, h.blks.kept (q := none) (.of_below k) (fun _ e => by cases e)⟩
theorem EnvP.alloc (h : EnvP p S w w1 l) (t : TypeId) (cs : Array Value) : EnvP p S w (w1.alloc (.cells cs t)) ((w1.heap.size, cs) :: l) := by
  have h' := h.below ((Below.refl _ _).alloc (Nat.le_refl _) (.cells cs t))
  exact ⟨h.low, h'.kept, h'.rd, ⟨Blk.new _ _ _, h.size, fun y hy => by have := h.blks.lt y hy; simp only; omega⟩, h'.blks⟩
theorem EnvP.own (h : EnvP p S w w1 l) (hg : w.heap.size ≤ g) (k : Kept (some g) w1.heap.size w1 w2) : Kept p w.heap.size w w2 ∧ RdP w2 p S :=
  ⟨h.kept.trans (k.one h.size (.inl hg)), h.rd.kept k (fun a b ha hb => by injection hb with hb; have := h.low a ha; omega)⟩
theorem EnvP.put0 (h : EnvP p S w w1 ((g, cs) :: l)) (b : Blk w2 g cs') (k : Kept (some g) w1.heap.size w1 w2) : EnvP p S w w2 ((g, cs') :: l) := by
  obtain ⟨⟨h1, h2, h3⟩, h4⟩ := h.blks
  obtain ⟨a, r⟩ := h.own h2 k
  exact ⟨h.low, a, r, ⟨b, h2, h3⟩, h4.far k h3⟩
theorem EnvP.put1 (h : EnvP p S w w1 ((g0, c0) :: (g, cs) :: l)) (b : Blk w2 g cs') (k : Kept (some g) w1.heap.size w1 w2) : EnvP p S w w2 ((g0, c0) :: (g, cs') :: l) := by
  obtain ⟨⟨a1, a2, a3⟩, ⟨h1, h2, h3⟩, h4⟩ := h.blks
  obtain ⟨a, r⟩ := h.own h2 k
  have hne := a3 (g, cs) (List.mem_cons_self ..)
  refine ⟨h.low, a, r, ⟨a1.kept k a1.lt (fun e => by injection e with e; exact hne e), a2, fun y hy => ?_⟩, ⟨b, h2, h3⟩, h4.far k h3⟩
  rcases List.mem_cons.1 hy with rfl | hy
  · exact hne
  · exact a3 y (List.mem_cons_of_mem _ hy)
theorem EnvP.b0 (h : EnvP p S w w1 ((g, cs) :: l)) : Blk w1 g cs := h.blks.1.1
theorem EnvP.b1 (h : EnvP p S w w1 ((g0, c0) :: (g, cs) :: l)) : Blk w1 g cs := h.blks.2.1.1
theorem EnvP.store1 (h : EnvP p S w w1 ((g0, c0) :: (g, cs) :: l)) (off : Nat) (v : Value) : EnvP p S w (w1.setCell ⟨g, off, none⟩ v) ((g0, c0) :: (g, cs.setIfInBounds off v) :: l) := h.put1 (h.b1.store off v) (kept_set w1 g off v)
theorem EnvP.as (h : EnvP p S w w1 ((g, cs) :: l)) (e : cs = cs') : EnvP p S w w1 ((g, cs') :: l) := e ▸ h
theorem EnvP.state (h : EnvP p S w w1 l) (e : S = S') : EnvP p S' w w1 l := e ▸ h
end
/-- The reference's reader, and blocks of the call's own. -/
structure EnvR (p : Nat) (S : Rd) (w w' : World) (l : List (Nat × Array Value)) : Prop where
  low : p < w.heap.size
  kept : Kept (some p) w.heap.size w w'
  rd : RdR w' p S
  blks : Blks w' w.heap.size l
section
variable {p : Nat} {S S' : Rd} {w w1 w2 : World} {l : List (Nat × Array Value)} {g g0 : Nat} {cs c0 cs' : Array Value}
theorem EnvR.start (r : RdR w p S) : EnvR p S w w [] := ⟨r.lt, Kept.refl _ _ _, r, trivial⟩
theorem EnvR.size (h : EnvR p S w w1 l) : w.heap.size ≤ w1.heap.size := h.kept.size
theorem EnvR.call (h : EnvR p S w w1 l) (r : RdR w2 p S') (k : Kept (some p) w1.heap.size w1 w2) : EnvR p S' w w2 l :=
  ⟨h.low, h.kept.then_kept k h.size, r, h.blks.kept k (fun g e => by injection e with e; have := h.low; omega)⟩
theorem EnvR.below (h : EnvR p S w w1 l) (k : Below w1.heap.size w1 w2) : EnvR p S w w2 l :=
  ⟨h.low, h.kept.then_below k h.size, h.rd.below k, h.blks.kept (q := none) (.of_below k) (fun _ e => by cases e)⟩
theorem EnvR.alloc (h : EnvR p S w w1 l) (t : TypeId) (cs : Array Value) : EnvR p S w (w1.alloc (.cells cs t)) ((w1.heap.size, cs) :: l) := by
  have h' := h.below ((Below.refl _ _).alloc (Nat.le_refl _) (.cells cs t))
  exact ⟨h.low, h'.kept, h'.rd, ⟨Blk.new _ _ _, h.size, fun y hy => by have := h.blks.lt y hy; simp only; omega⟩, h'.blks⟩
theorem EnvR.own (h : EnvR p S w w1 l) (hg : w.heap.size ≤ g) (k : Kept (some g) w1.heap.size w1 w2) : Kept (some p) w.heap.size w w2 ∧ RdR w2 p S :=
  ⟨h.kept.trans (k.one h.size (.inl hg)), h.rd.kept k (fun e => by injection e with e; have := h.low; omega)⟩
theorem EnvR.put0 (h : EnvR p S w w1 ((g, cs) :: l)) (b : Blk w2 g cs') (k : Kept (some g) w1.heap.size w1 w2) : EnvR p S w w2 ((g, cs') :: l) := by
  obtain ⟨⟨h1, h2, h3⟩, h4⟩ := h.blks
  obtain ⟨a, r⟩ := h.own h2 k
  exact ⟨h.low, a, r, ⟨b, h2, h3⟩, h4.far k h3⟩
theorem EnvR.put1 (h : EnvR p S w w1 ((g0, c0) :: (g, cs) :: l)) (b : Blk w2 g cs') (k : Kept (some g) w1.heap.size w1 w2) : EnvR p S w w2 ((g0, c0) :: (g, cs') :: l) := by
  obtain ⟨⟨a1, a2, a3⟩, ⟨h1, h2, h3⟩, h4⟩ := h.blks
  obtain ⟨a, r⟩ := h.own h2 k
  have hne := a3 (g, cs) (List.mem_cons_self ..)
  refine ⟨h.low, a, r, ⟨a1.kept k a1.lt (fun e => by injection e with e; exact hne e), a2, fun y hy => ?_⟩, ⟨b, h2, h3⟩, h4.far k h3⟩
  rcases List.mem_cons.1 hy with rfl | hy
  · exact hne
  · exact a3 y (List.mem_cons_of_mem _ hy)
theorem EnvR.b0 (h : EnvR p S w w1 ((g, cs) :: l)) : Blk w1 g cs := h.blks.1.1
theorem EnvR.b1 (h : EnvR p S w w1 ((g0, c0) :: (g, cs) :: l)) : Blk w1 g cs := h.blks.2.1.1
theorem EnvR.store1 (h : EnvR p S w w1 ((g0, c0) :: (g, cs) :: l)) (off : Nat) (v : Value) : EnvR p S w (w1.setCell ⟨g, off, none⟩ v) ((g0, c0) :: (g, cs.setIfInBounds off v) :: l) := h.put1 (h.b1.store off v) (kept_set w1 g off v)
theorem EnvR.as (h : EnvR p S w w1 ((g, cs) :: l)) (e : cs = cs') : EnvR p S w w1 ((g, cs') :: l) := e ▸ h
theorem EnvR.state (h : EnvR p S w w1 l) (e : S = S') : EnvR p S' w w1 l := e ▸ h
end
end Go.Proofs.YtfgjhgecmelccaaDoor
namespace Go.Proofs.YtfgjhgecmelccaaDoor
open Go.RowKit

/-- peek's end: what it answers, and what the reader is then. -/
def RetPk (g : Nat) (A : Option Addr) (c : Nat) (B : List UInt8) (pos : Nat) (most : Int) (w : World) (e : Ending) (w' : World) : Prop :=
  e = .returned (.tuple #[.int .i64 (nVal (B.drop pos) most), .int .i64 ((pos + nLen (B.drop pos) most : Nat) : Int)]) ∧ RdA w' g A c B pos (nErr (B.drop pos) most) ∧ Kept (some g) w.heap.size w w'

theorem RetPk.bad {g : Nat} {A : Option Addr} {c : Nat} {B : List UInt8} {pos : Nat} {most : Int} {w wr w2 : World} {e : Int} (_hgl : g < wr.heap.size) (R : RdA wr g A c B pos 0) (hbl : Below w.heap.size w wr)
    (hb2 : Below (wr.setCell ⟨g, 2, none⟩ (.int .i64 e)).heap.size (wr.setCell ⟨g, 2, none⟩ (.int .i64 e)) w2) (he : nErr (B.drop pos) most = e) (h0 : e ≠ 0) :
    RetPk g A c B pos most w (.returned (.tuple #[.int .i64 0, .int .i64 pos])) w2 := by
  have hz : (wr.setCell ⟨g, 2, none⟩ (.int .i64 e)).heap.size = wr.heap.size := by simp [World.setCell]
  refine ⟨?_, ?_, ?_⟩
  · rw [nVal_bad (by omega), nLen_bad (by omega)]; rfl
  · rw [he]; exact (R.store2 e).kept (q := none) (.of_below hb2) (fun _ h => by cases h)
  · exact ((Kept.of_below hbl).setCell (.inr rfl) _).then_below hb2 (by rw [hz]; exact hbl.size)
end Go.Proofs.YtfgjhgecmelccaaDoor
namespace Go.Proofs.YtfgjhgecmelccaaDoor
open Go.RowKit

theorem RdP.nil {w : World} {st : Rd} (h : RdP w none st) : st = ⟨[], 1⟩ := by
  rcases h with ⟨_, h⟩ | ⟨g, _, _, _, _, h, _⟩
  · exact h
  · cases h
theorem RdP.at {w : World} {g : Nat} {st : Rd} (h : RdP w (some g) st) : ∃ A c B pos, RdA w g A c B pos st.e ∧ st.s = B.drop pos := by
  rcases h with ⟨h, _⟩ | ⟨g', A, c, B, pos, h, ha, hs⟩
  · cases h
  · injection h with h; subst h; exact ⟨A, c, B, pos, ha, hs⟩
theorem RdP.mk {w : World} {g : Nat} {A : Option Addr} {c : Nat} {B : List UInt8} {pos : Nat} {st : Rd} (ha : RdA w g A c B pos st.e) (hs : st.s = B.drop pos) : RdP w (some g) st := .inr ⟨g, A, c, B, pos, rfl, ha, hs⟩
theorem RdP.nilmk (w : World) : RdP w none ⟨[], 1⟩ := .inl ⟨rfl, rfl⟩
theorem RetP.nil {w w' : World} {st' : Rd} {v : Value} (h : st' = ⟨[], 1⟩) (hb : Below w.heap.size w w') : RetP none st' w v (.returned v) w' := by subst h; exact ⟨rfl, RdP.nilmk _, .of_below hb⟩
theorem RetP.same {w w' : World} {p : Option Nat} {st : Rd} {v : Value} (h : RdP w p st) (hb : Below w.heap.size w w') : RetP p st w v (.returned v) w' := ⟨rfl, h.below hb, .of_below hb⟩

/-- The nil reader, or the one at g. -/
theorem RdA.fail {w : World} {g : Nat} {A : Option Addr} {c : Nat} {B : List UInt8} {pos : Nat} {st : Rd} {e : Int} (ha : RdA w g A c B pos st.e) (hs : st.s = B.drop pos) : RdP (w.setCell ⟨g, 2, none⟩ (.int .i64 e)) (some g) ⟨st.s, e⟩ ∧ Kept (some g) w.heap.size w (w.setCell ⟨g, 2, none⟩ (.int .i64 e)) :=
  ⟨RdP.mk (ha.store2 e) hs, (Kept.refl _ _ _).setCell (q := ⟨g, 2, none⟩) (.inr rfl) _⟩
theorem RdA.in {w : World} {g : Nat} {A : Option Addr} {c : Nat} {B : List UInt8} {pos : Nat} {e : Int} (ha : RdA w g A c B pos e) : InB w A c B :=
  ⟨ha.2.2.1, ha.2.2.2.1, ha.2.2.2.2.1, ha.2.2.2.2.2.imp id fun ⟨b, off, hA, hb, hr⟩ => ⟨b, off, hA, by have := ha.1.lt; omega, hr⟩⟩
end Go.Proofs.YtfgjhgecmelccaaDoor
namespace Go.Proofs.YtfgjhgecmelccaaDoor
open Go.RowKit

theorem EnvP.b2 {p : Option Nat} {S : Rd} {w w1 : World} {l : List (Nat × Array Value)} {g g0 g1 : Nat} {cs c0 c1 : Array Value} (h : EnvP p S w w1 ((g0, c0) :: (g1, c1) :: (g, cs) :: l)) : Blk w1 g cs := h.blks.2.2.1.1
theorem EnvP.bel {S : Rd} {w w1 : World} {l : List (Nat × Array Value)} (h : EnvP none S w w1 l) : Below w.heap.size w w1 := h.kept.below (Nat.le_refl _) (fun _ e => by cases e)
def inR (x m : Int) : Prop := 0 ≤ x ∧ x ≤ m
instance (x m : Int) : Decidable (inR x m) := by unfold inR; infer_instance
theorem tok_bad0 {t : Tok} (h : ¬ inR t.dev 5) : t.ok = false := by unfold inR at h; unfold Tok.ok; simp; omega
theorem tok_bad1 {t : Tok} (h : ¬ inR t.epoch 1099511627776) : t.ok = false := by unfold inR at h; unfold Tok.ok; simp; omega
theorem tok_bad2 {t : Tok} (h : ¬ inR t.seq 1099511627776) : t.ok = false := by unfold inR at h; unfold Tok.ok; simp; omega
theorem tok_bad3 {t : Tok} (h : ¬ inR t.cursor 1073741824) : t.ok = false := by unfold inR at h; unfold Tok.ok; simp; omega
set_option maxHeartbeats 8000000 in
set_option maxRecDepth 4000 in
theorem c_token_Check (t : Tok) (w : World) : Calls Tryd.prog 33 #[.agg t.arr] w (RetV w (.bool t.ok)) := by
  have E := Lib.hid ((EnvP.start (RdP.nilmk w)).alloc 72 t.arr)
  go_enter Tryd.func33, Tryd.ntmps33
  go_wp2_with (with_reducible refine stop_load 72 (.tmp 1) rfl rfl ?_)
  refine Stop.mk (wpList_loadB rfl _ _ rfl w.heap.size rfl _ E.out.b0 strTk rfl ?_)
  go_wp2_with (fail)
  refine (c_token_parts t _).mono ?_
  rintro e w1 ⟨rfl, hb1⟩
  replace E := Lib.hid (E.out.below hb1)
  clear hb1
  go_wp2_with (fail)
  refine (c_token_most _).mono ?_
  rintro e w2 ⟨rfl, hb2⟩
  replace E := Lib.hid (E.out.below hb2)
  clear hb2
  go_wp2_with (with_reducible refine stop_store 138 (.tmp 3) (.tmp 7) rfl rfl ?_)
  replace E := Lib.hid ((E.out.alloc 138 #[.int .i64 0, .int .i64 0, .int .i64 0, .int .i64 0]).alloc 138 #[.int .i64 0, .int .i64 0, .int .i64 0, .int .i64 0])
  have hs2 : (w2.alloc (.cells #[.int .i64 0, .int .i64 0, .int .i64 0, .int .i64 0] 138)).heap.size = w2.heap.size + 1 := by simp
  rw [hs2] at E
  refine Stop.mk (wpList_storeB rfl _ _ _ rfl w2.heap.size _ rfl rfl _ E.out.b1 str4i rfl rfl (by simp [Value.oneCell']) ?_)
  intro w3 hb3 hk3
  replace E := Lib.hid (E.out.put1 hb3 hk3)
  clear hb3 hk3 hs2
  go_wp2_with (with_reducible refine stop_store 138 (.tmp 4) (.tmp 8) rfl rfl ?_)
  refine Stop.mk (wpList_storeB rfl _ _ _ rfl (w2.heap.size + 1) _ rfl rfl _ E.out.b0 str4i rfl rfl (by simp [Value.oneCell']) ?_)
  intro w4 hb4 hk4
  replace E := Lib.hid (E.out.put0 hb4 hk4)
  clear hb4 hk4
  obtain ⟨g, hg⟩ : ∃ g, g = w2.heap.size := ⟨_, rfl⟩
  obtain ⟨g', hg'⟩ : ∃ g, g = w2.heap.size + 1 := ⟨_, rfl⟩
  go_wp2_with (fail)
  rw [← hg', ← hg] at E ⊢
  clear hg hg'
  go_loopw [5, 9] (fun _ i wr => ∃ k : Nat, k ≤ 4 ∧ i = .int .i64 k ∧ (0 < k → inR t.dev 5) ∧ (1 < k → inR t.epoch 1099511627776) ∧ (2 < k → inR t.seq 1099511627776) ∧ (3 < k → inR t.cursor 1073741824) ∧ Hid (EnvP none ⟨[], 1⟩ w wr [(g', most4), (g, t.arr), (w.heap.size, t.arr)]))
    (fun _ i _ => 4 - (intOf i).toNat)
  case atStart => exact ⟨0, by omega, rfl, fun h => absurd h (by omega), fun h => absurd h (by omega), fun h => absurd h (by omega), fun h => absurd h (by omega), E.out⟩
  case round =>
    obtain ⟨k, hk, rfl, K0, K1, K2, K3, E1⟩ := hrel
    clear E
    have hcs : k = 0 ∨ k = 1 ∨ k = 2 ∨ k = 3 ∨ k = 4 := by omega
    clear hk
    obtain ⟨q0, q1, q2, q3⟩ := tok_cells E1.out.b1
    have m0 := E1.out.b0.cell (show most4[0]? = _ from rfl)
    have m1 := E1.out.b0.cell (show most4[1]? = _ from rfl)
    have m2 := E1.out.b0.cell (show most4[2]? = _ from rfl)
    have m3 := E1.out.b0.cell (show most4[3]? = _ from rfl)
    have hlt3 := E1.out.b1.lt
    have hlt4 := E1.out.b0.lt
    rcases hcs with rfl | rfl | rfl | rfl | rfl
    · by_cases hk : inR t.dev 5
      · have d1 : decide (t.dev < 0) = false := by unfold inR at hk; simp; omega
        have d2 : decide (5 < t.dev) = false := by unfold inR at hk; simp; omega
        have HK := Lib.hid hk
        clear hk
        go_wp2_with (fail)
        refine wp_region_grow (by kernel_rfl) (by kernel_rfl) ?_
        repeat (quiet_step ((first | (fail))))
        refine wpQuiet_nil ?_
        intro W2 hb2
        have E2 := Lib.hid (E1.out.below hb2)
        clear hb2 E1 q0 q1 q2 q3 m0 m1 m2 m3 hlt3 hlt4
        go_wp2_with (fail)
        go_roundw
        case rel => refine ⟨0 + 1, by omega, rfl, fun _ => ?_, fun _ => ?_, fun _ => ?_, fun _ => ?_, E2.out⟩ <;> first | exact HK.out | exact (K0 (by omega)) | exact (K1 (by omega)) | exact (K2 (by omega)) | (exfalso; omega)
        case measure => simp [intOf]
      · have H := Lib.hid (tok_bad0 hk)
        have hcs : t.dev < 0 ∨ (0 ≤ t.dev ∧ 5 < t.dev) := by unfold inR at hk; omega
        clear hk
        rcases hcs with h1 | ⟨h1, h2⟩
        · have d1 : decide (t.dev < 0) = true := by simpa using h1
          clear h1
          go_wp2_with (fail)
          refine wp_region_grow (by kernel_rfl) (by kernel_rfl) ?_
          repeat (quiet_step ((first | (fail))))
          refine wpQuiet_nil ?_
          intro W2 hb2
          have hbw := E1.out.bel.trans (hb2.mono E1.out.size)
          go_wp2_with (fail)
          go_ret
          exact RetV.bool H.out.symm hbw
        · have d1 : decide (t.dev < 0) = false := by simpa using h1
          have d2 : decide (5 < t.dev) = true := by simpa using h2
          clear h1 h2
          go_wp2_with (fail)
          refine wp_region_grow (by kernel_rfl) (by kernel_rfl) ?_
          repeat (quiet_step ((first | (fail))))
          refine wpQuiet_nil ?_
          intro W2 hb2
          have hbw := E1.out.bel.trans (hb2.mono E1.out.size)
          go_wp2_with (fail)
          go_ret
          exact RetV.bool H.out.symm hbw
    · by_cases hk : inR t.epoch 1099511627776
      · have d1 : decide (t.epoch < 0) = false := by unfold inR at hk; simp; omega
        have d2 : decide (1099511627776 < t.epoch) = false := by unfold inR at hk; simp; omega
        have HK := Lib.hid hk
        clear hk
        go_wp2_with (fail)
        refine wp_region_grow (by kernel_rfl) (by kernel_rfl) ?_
        repeat (quiet_step ((first | (fail))))
        refine wpQuiet_nil ?_
        intro W2 hb2
        have E2 := Lib.hid (E1.out.below hb2)
        clear hb2 E1 q0 q1 q2 q3 m0 m1 m2 m3 hlt3 hlt4
        go_wp2_with (fail)
        go_roundw
        case rel => refine ⟨1 + 1, by omega, rfl, fun _ => ?_, fun _ => ?_, fun _ => ?_, fun _ => ?_, E2.out⟩ <;> first | exact HK.out | exact (K0 (by omega)) | exact (K1 (by omega)) | exact (K2 (by omega)) | (exfalso; omega)
        case measure => simp [intOf]
      · have H := Lib.hid (tok_bad1 hk)
        have hcs : t.epoch < 0 ∨ (0 ≤ t.epoch ∧ 1099511627776 < t.epoch) := by unfold inR at hk; omega
        clear hk
        rcases hcs with h1 | ⟨h1, h2⟩
        · have d1 : decide (t.epoch < 0) = true := by simpa using h1
          clear h1
          go_wp2_with (fail)
          refine wp_region_grow (by kernel_rfl) (by kernel_rfl) ?_
          repeat (quiet_step ((first | (fail))))
          refine wpQuiet_nil ?_
          intro W2 hb2
          have hbw := E1.out.bel.trans (hb2.mono E1.out.size)
          go_wp2_with (fail)
          go_ret
          exact RetV.bool H.out.symm hbw
        · have d1 : decide (t.epoch < 0) = false := by simpa using h1
          have d2 : decide (1099511627776 < t.epoch) = true := by simpa using h2
          clear h1 h2
          go_wp2_with (fail)
          refine wp_region_grow (by kernel_rfl) (by kernel_rfl) ?_
          repeat (quiet_step ((first | (fail))))
          refine wpQuiet_nil ?_
          intro W2 hb2
          have hbw := E1.out.bel.trans (hb2.mono E1.out.size)
          go_wp2_with (fail)
          go_ret
          exact RetV.bool H.out.symm hbw
    · by_cases hk : inR t.seq 1099511627776
      · have d1 : decide (t.seq < 0) = false := by unfold inR at hk; simp; omega
        have d2 : decide (1099511627776 < t.seq) = false := by unfold inR at hk; simp; omega
        have HK := Lib.hid hk
        clear hk
        go_wp2_with (fail)
        refine wp_region_grow (by kernel_rfl) (by kernel_rfl) ?_
        repeat (quiet_step ((first | (fail))))
        refine wpQuiet_nil ?_
        intro W2 hb2
        have E2 := Lib.hid (E1.out.below hb2)
        clear hb2 E1 q0 q1 q2 q3 m0 m1 m2 m3 hlt3 hlt4
        go_wp2_with (fail)
        go_roundw
        case rel => refine ⟨2 + 1, by omega, rfl, fun _ => ?_, fun _ => ?_, fun _ => ?_, fun _ => ?_, E2.out⟩ <;> first | exact HK.out | exact (K0 (by omega)) | exact (K1 (by omega)) | exact (K2 (by omega)) | (exfalso; omega)
        case measure => simp [intOf]
      · have H := Lib.hid (tok_bad2 hk)
        have hcs : t.seq < 0 ∨ (0 ≤ t.seq ∧ 1099511627776 < t.seq) := by unfold inR at hk; omega
        clear hk
        rcases hcs with h1 | ⟨h1, h2⟩
        · have d1 : decide (t.seq < 0) = true := by simpa using h1
          clear h1
          go_wp2_with (fail)
          refine wp_region_grow (by kernel_rfl) (by kernel_rfl) ?_
          repeat (quiet_step ((first | (fail))))
          refine wpQuiet_nil ?_
          intro W2 hb2
          have hbw := E1.out.bel.trans (hb2.mono E1.out.size)
          go_wp2_with (fail)
          go_ret
          exact RetV.bool H.out.symm hbw
        · have d1 : decide (t.seq < 0) = false := by simpa using h1
          have d2 : decide (1099511627776 < t.seq) = true := by simpa using h2
          clear h1 h2
          go_wp2_with (fail)
          refine wp_region_grow (by kernel_rfl) (by kernel_rfl) ?_
          repeat (quiet_step ((first | (fail))))
          refine wpQuiet_nil ?_
          intro W2 hb2
          have hbw := E1.out.bel.trans (hb2.mono E1.out.size)
          go_wp2_with (fail)
          go_ret
          exact RetV.bool H.out.symm hbw
    · by_cases hk : inR t.cursor 1073741824
      · have d1 : decide (t.cursor < 0) = false := by unfold inR at hk; simp; omega
        have d2 : decide (1073741824 < t.cursor) = false := by unfold inR at hk; simp; omega
        have HK := Lib.hid hk
        clear hk
        go_wp2_with (fail)
        refine wp_region_grow (by kernel_rfl) (by kernel_rfl) ?_
        repeat (quiet_step ((first | (fail))))
        refine wpQuiet_nil ?_
        intro W2 hb2
        have E2 := Lib.hid (E1.out.below hb2)
        clear hb2 E1 q0 q1 q2 q3 m0 m1 m2 m3 hlt3 hlt4
        go_wp2_with (fail)
        go_roundw
        case rel => refine ⟨3 + 1, by omega, rfl, fun _ => ?_, fun _ => ?_, fun _ => ?_, fun _ => ?_, E2.out⟩ <;> first | exact HK.out | exact (K0 (by omega)) | exact (K1 (by omega)) | exact (K2 (by omega)) | (exfalso; omega)
        case measure => simp [intOf]
      · have H := Lib.hid (tok_bad3 hk)
        have hcs : t.cursor < 0 ∨ (0 ≤ t.cursor ∧ 1073741824 < t.cursor) := by unfold inR at hk; omega
        clear hk
        rcases hcs with h1 | ⟨h1, h2⟩
        · have d1 : decide (t.cursor < 0) = true := by simpa using h1
          clear h1
          go_wp2_with (fail)
          refine wp_region_grow (by kernel_rfl) (by kernel_rfl) ?_
          repeat (quiet_step ((first | (fail))))
          refine wpQuiet_nil ?_
          intro W2 hb2
          have hbw := E1.out.bel.trans (hb2.mono E1.out.size)
          go_wp2_with (fail)
          go_ret
          exact RetV.bool H.out.symm hbw
        · have d1 : decide (t.cursor < 0) = false := by simpa using h1
          have d2 : decide (1073741824 < t.cursor) = true := by simpa using h2
          clear h1 h2
          go_wp2_with (fail)
          refine wp_region_grow (by kernel_rfl) (by kernel_rfl) ?_
          repeat (quiet_step ((first | (fail))))
          refine wpQuiet_nil ?_
          intro W2 hb2
          have hbw := E1.out.bel.trans (hb2.mono E1.out.size)
          go_wp2_with (fail)
          go_ret
          exact RetV.bool H.out.symm hbw
    · have r0 := K0 (by omega)
      have r1 := K1 (by omega)
      have r2 := K2 (by omega)
      have r3 := K3 (by omega)
      have H := Lib.hid (show t.ok = decide (0 < t.epoch) by
        unfold inR at r0 r1 r2 r3
        unfold Tok.ok
        rw [Bool.eq_iff_iff]
        simp only [decide_eq_true_eq]
        omega)
      obtain ⟨u0, u1, u2, u3⟩ := tok_cells E1.out.b2
      clear r0 r1 r2 r3 K0 K1 K2 K3
      go_wp2_with (fail)
      go_ret
      exact RetV.bool H.out.symm E1.out.bel
end Go.Proofs.YtfgjhgecmelccaaDoor
