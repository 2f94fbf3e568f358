/-
  Lemmas (walks and plain laws), in one text.
-/
import Derived.Test.YtfgjhgecmelccaaDoorTb3
import Derived.Test.YtfgjhgecmelccaaDoorRows
import Derived.WalkKit
import Derived.WalkSpells
import Derived.WalkLawsBesides
import Derived.Lib.Hide
import Derived.Deep.QuietTactic
import Derived.BigQuiet
import Derived.Maps.AppendAt
import Derived.WalkSmall
import Derived.ProofKit
import Derived.OpenShut
import Derived.JoinedCond
import Derived.Deep.Slices
import Derived.Deep.Fields
import Derived.Carry
import Derived.HandedShaped
import Derived.Shelf.Strings.Builder1
import Derived.Shelf.Strings.Builder2
import Derived.Shelf.Strings.OnBuilder
import Derived.Shelf.Small.Wraps
import Derived.Shelf.Utf8.RuneCount
import Derived.Shelf.Strconv.Itoa0
import Derived.Shelf.Strconv.Itoa1
import Derived.Shelf.LaysM
import Derived.Shelf.Strconv.Itoa2
import Derived.Shelf.Strconv.Itoa3
import Derived.Shelf.Strings.Search1
import Derived.Shelf.Strings.Search2
import Derived.Shelf.Strings.Search3
import Derived.Shelf.Strings.Count
import Derived.Shelf.Strings.Shaped
import Derived.Shelf.Strings.Split
import Derived.Shelf.Strings.SplitShaped
import Derived.Shelf.Unicode.Decode
import Derived.Shelf.Strings.RuneCount
import Derived.Shelf.Strings.Explode
import Derived.Shelf.Unicode.DecodeSlow
import Derived.Test.YtfgjhgecmelccaaDoorProg
import Derived.Deep.AppendSrc
import Derived.Lib.AppendStr
import Derived.Laws.BytesArg
import Derived.Lib.AppendIntMem
import Derived.Lib.ItoaLen
import Derived.Lib.TrailingZeros
import Derived.Lib.SplitLaws
import Derived.Lib.ItoaNum
import Derived.Shelf.Strings.PiecesUse
import Derived.Shelf.Spec.TrailingZeros
import Derived.RangeFuncNested
import Derived.RangeFuncBound
import Derived.RangeFuncCalls
import Derived.RangeFuncLeaves
import Derived.Shelf.Abstract
import Derived.Shelf.RegionOpen
import Derived.OwnWalkIn
import Derived.TacticsInMore
import Derived.LoopNIn
import Derived.LoopIn
import Derived.Test.YtfgjhgecmelccaaDoorTie
import Derived.Lib.LaidTab
import Derived.LaidMore
import Derived.Lay
import Derived.Stop.LaidErr
import Derived.SevenTiedAt
import Derived.Test.YtfgjhgecmelccaaDoorCards
import Derived.Deep.CutBlock
import Derived.Deep.DeepCutAuto
import Derived.Laws.Tables
import Derived.Laws.Rows
import Derived.Laws.CopyOwn
import Derived.Outline
import Derived.IntWalk
import Derived.Lib.EndianBits
import Derived.StillTail
import Derived.Laws.IdiomStrings
import Derived.ChangeKeysEq
import Derived.Laws.StructEq
namespace Go.Proofs.YtfgjhgecmelccaaDoor
open Go.RowKit

/-! Worlds in which, below a block number, one block alone may have turned. -/
structure Kept (p : Option Nat) (B : Nat) (w w' : World) : Prop where
  os : w'.os = w.os
  tape : w'.tape = w.tape
  output : w'.output = w.output
  size : w.heap.size ≤ w'.heap.size
  block : ∀ k, k < B → p ≠ some k → w'.heap[k]? = w.heap[k]?
section
variable {p : Option Nat} {B B' : Nat} {a b c w w' : World}
theorem Kept.refl (p : Option Nat) (B : Nat) (w : World) : Kept p B w w := ⟨rfl, rfl, rfl, Nat.le_refl _, fun _ _ _ => rfl⟩
theorem Kept.of_below (h : Below B w w') : Kept p B w w' := ⟨h.os, h.tape, h.output, h.size, fun k hk _ => h.block k hk⟩
theorem Kept.trans (h : Kept p B a b) (k : Kept p B b c) : Kept p B a c := ⟨k.os.trans h.os, k.tape.trans h.tape, k.output.trans h.output, Nat.le_trans h.size k.size, fun i hi hp => (k.block i hi hp).trans (h.block i hi hp)⟩
theorem Kept.mono (h : Kept p B w w') (hB : B' ≤ B) : Kept p B' w w' := ⟨h.os, h.tape, h.output, h.size, fun k hk hp => h.block k (by omega) hp⟩
theorem Kept.below (h : Kept p B w w') (hB : B' ≤ B) (hp : ∀ g, p = some g → B' ≤ g) : Below B' w w' := ⟨h.os, h.tape, h.output, h.size, fun k hk => h.block k (by omega) (fun e => by have := hp k e; omega)⟩
theorem Kept.alloc (h : Kept p B a w) (hB : B ≤ w.heap.size) (o : Obj) : Kept p B a (w.alloc o) := h.trans (.of_below ((Below.refl _ _).alloc hB o))
theorem Kept.drew (h : Kept p B a w) : Kept p B a w.drew := ⟨h.os, h.tape, h.output, h.size, h.block⟩
theorem Kept.setCell (h : Kept p B a w) {q : Addr} (hq : B ≤ q.block ∨ p = some q.block) (u : Value) : Kept p B a (w.setCell q u) :=
  h.trans ⟨rfl, rfl, rfl, by simp [World.setCell], fun k hk hp => Below.heap_setCell _ _ _ _ (fun e => by
    subst e
    rcases hq with h | h
    · omega
    · exact hp h)⟩
theorem Kept.then_below (h : Kept p B a w) (k : Below w.heap.size w w') (hB : B ≤ w.heap.size) : Kept p B a w' := h.trans (.of_below (k.mono hB))
theorem Kept.then_kept (h : Kept p B a w) (k : Kept p w.heap.size w w') (hB : B ≤ w.heap.size) : Kept p B a w' := h.trans (k.mono hB)
theorem Kept.cell (h : Kept p B w w') {q : Addr} (hq : q.block < B) (hp : p ≠ some q.block) : w'.cell? q = w.cell? q := World.cell?_of_block (w := w) (h.block q.block hq hp)
theorem own_kept {base : Nat} {e : TypeId} {size n : Nat} {v : Value} {xs : List Value} (h : w.ownsRow base e size v n xs) (k : Kept p w.heap.size w w') (hp : ∀ g, p = some g → g < base) : w'.ownsRow base e size v n xs := by
  obtain ⟨h1, h2⟩ := h
  refine ⟨h1, ?_⟩
  rcases h2 with h2 | ⟨g, cap, cur, hv, hg, hh, r⟩
  · exact .inl h2
  · exact .inr ⟨g, cap, cur, hv, hg, by rw [k.block g (by
      rcases Nat.lt_or_ge g w.heap.size with hlt | hge
      · exact hlt
      · rw [Array.getElem?_eq_none hge] at hh; cases hh) (fun e => by have := hp g e; omega)]; exact hh, r⟩
end

/-! A block that is known whole. -/
def Blk (w : World) (g : Nat) (cs : Array Value) : Prop := ∃ t, w.heap[g]? = some (.cells cs t (0, 0))
section
variable {w w' : World} {g : Nat} {cs : Array Value}
theorem Blk.lt (h : Blk w g cs) : g < w.heap.size := by
  obtain ⟨t, h⟩ := h
  rcases Nat.lt_or_ge g w.heap.size with hlt | hge
  · exact hlt
  · rw [Array.getElem?_eq_none hge] at h; cases h
theorem Blk.cell (h : Blk w g cs) {i : Nat} {v : Value} (hv : cs[i]? = some v) : w.cell? ⟨g, i, none⟩ = some v := by
  obtain ⟨t, h⟩ := h
  simp [World.cell?, h, hv]
theorem Blk.frozen (h : Blk w g cs) (i : Nat) : w.frozen? ⟨g, i, none⟩ = false := by
  obtain ⟨t, h⟩ := h
  simp [World.frozen?, h]
theorem Blk.new (w : World) (t : TypeId) (cs : Array Value) : Blk (w.alloc (.cells cs t)) w.heap.size cs := ⟨t, heap_alloc_new w _⟩
theorem Blk.kept {p : Option Nat} {B : Nat} (h : Blk w g cs) (k : Kept p B w w') (hg : g < B) (hp : p ≠ some g) : Blk w' g cs := by
  obtain ⟨t, h⟩ := h
  exact ⟨t, (k.block g hg hp).trans h⟩
theorem Blk.below {B : Nat} (h : Blk w g cs) (k : Below B w w') (hg : g < B) : Blk w' g cs := by
  obtain ⟨t, h⟩ := h
  exact ⟨t, (k.block g hg).trans h⟩
theorem Blk.store (h : Blk w g cs) (i : Nat) (u : Value) : Blk (w.setCell ⟨g, i, none⟩ u) g (cs.setIfInBounds i u) := by
  obtain ⟨t, h⟩ := h
  exact ⟨t, by simp [World.setCell, Array.getElem?_modify, h]⟩
theorem Blk.far (h : Blk w g cs) {q : Addr} (hq : g ≠ q.block) (u : Value) : Blk (w.setCell q u) g cs := by
  obtain ⟨t, h⟩ := h
  exact ⟨t, (Below.heap_setCell w q u g hq).trans h⟩
end

/-! The readers in memory. -/
/-- The program's reader at block g: the bytes B, the place, the error. -/
def RdA (w : World) (g : Nat) (A : Option Addr) (c : Nat) (B : List UInt8) (pos : Nat) (e : Int) : Prop :=
  Blk w g #[.slice A B.length c, .int .i64 pos, .int .i64 e] ∧ pos ≤ B.length ∧ B.length ≤ c ∧ c ≤ 9223372036854775807 ∧ B.length ≤ 4294967296 ∧ (B = [] ∨ ∃ b off, A = some ⟨b, off, none⟩ ∧ b < g ∧ Row 1 bc w b off B)
/-- The program's reader; none: the nil one. -/
def RdP (w : World) (p : Option Nat) (st : Rd) : Prop :=
  (p = none ∧ st = ⟨[], 1⟩) ∨ ∃ g A c B pos, p = some g ∧ RdA w g A c B pos st.e ∧ st.s = B.drop pos
/-- The reference's reader at block h. -/
def RdR (w : World) (h : Nat) (st : Rd) : Prop := Blk w h #[.string (str st.s), .int .i64 st.e] ∧ st.s.length ≤ 4294967296
def ptr (p : Option Nat) : Value := .pointer (p.map fun g => ⟨g, 0, none⟩)
theorem ptr_none : ptr none = .pointer none := rfl
theorem ptr_some (g : Nat) : ptr (some g) = .pointer (some ⟨g, 0, none⟩) := rfl
section
variable {w w' : World} {g h : Nat} {A : Option Addr} {c pos : Nat} {B : List UInt8} {e : Int} {p q : Option Nat} {st st' : Rd}
theorem RdA.kept (r : RdA w g A c B pos e) (k : Kept q w.heap.size w w') (hq : ∀ h, q = some h → g < h) : RdA w' g A c B pos e := by
  obtain ⟨h1, h2, h3, h4, h5, h6⟩ := r
  refine ⟨h1.kept k h1.lt (fun e => by have := hq g e; omega), h2, h3, h4, h5, h6.imp id fun ⟨b, off, hA, hb, hr⟩ => ⟨b, off, hA, hb, ?_⟩⟩
  have := h1.lt
  exact hr.keep fun o => k.cell (by show b < _; omega) (fun e => by have := hq b e; omega)
theorem RdA.store1 (r : RdA w g A c B pos e) (pos' : Nat) (hp : pos' ≤ B.length) : RdA (w.setCell ⟨g, 1, none⟩ (.int .i64 pos')) g A c B pos' e := by
  obtain ⟨h1, h2, h3, h4, h5, h6⟩ := r
  refine ⟨by simpa using h1.store 1 (.int .i64 pos'), hp, h3, h4, h5, h6.imp id fun ⟨b, off, hA, hb, hr⟩ => ⟨b, off, hA, hb, ?_⟩⟩
  exact hr.keep fun o => World.cell?_setCell_other _ _ _ _ (fun e => by injection e; omega)
theorem RdA.store2 (r : RdA w g A c B pos e) (e' : Int) : RdA (w.setCell ⟨g, 2, none⟩ (.int .i64 e')) g A c B pos e' := by
  obtain ⟨h1, h2, h3, h4, h5, h6⟩ := r
  refine ⟨by simpa using h1.store 2 (.int .i64 e'), h2, h3, h4, h5, h6.imp id fun ⟨b, off, hA, hb, hr⟩ => ⟨b, off, hA, hb, ?_⟩⟩
  exact hr.keep fun o => World.cell?_setCell_other _ _ _ _ (fun e => by injection e; omega)
theorem RdP.kept (r : RdP w p st) (k : Kept q w.heap.size w w') (hq : ∀ g h, p = some g → q = some h → g < h) : RdP w' p st :=
  r.imp id fun ⟨g, A, c, B, pos, hp, ha, hs⟩ => ⟨g, A, c, B, pos, hp, ha.kept k (fun h => hq g h hp), hs⟩
theorem RdP.below (r : RdP w p st) (k : Below w.heap.size w w') : RdP w' p st := r.kept (q := none) (.of_below k) (fun _ _ _ h => by cases h)
theorem RdP.lt (r : RdP w p st) (hg : p = some g) : g < w.heap.size := by
  rcases r with ⟨rfl, _⟩ | ⟨g', A, c, B, pos, hp, ha, _⟩
  · cases hg
  · rw [hp] at hg; injection hg with hg; subst hg; exact ha.1.lt
theorem RdR.kept (r : RdR w h st) (k : Kept q w.heap.size w w') (hq : q ≠ some h) : RdR w' h st := ⟨r.1.kept k r.1.lt hq, r.2⟩
theorem RdR.below (r : RdR w h st) (k : Below w.heap.size w w') : RdR w' h st := r.kept (q := none) (.of_below k) (by simp)
theorem RdR.lt (r : RdR w h st) : h < w.heap.size := r.1.lt
theorem RdP.len (r : RdP w p st) : st.s.length ≤ 4294967296 := by
  rcases r with ⟨rfl, rfl⟩ | ⟨g, A, c, B, pos, hp, ha, hs⟩
  · simp
  · rw [hs]; have := ha.2.2.2.2.1; simp; omega
end

/-! The ends of the readers' calls. -/
/-- The call hands back v, the program's reader is then st'; nothing else below the heap's end has turned. -/
def RetP (p : Option Nat) (st' : Rd) (w : World) (v : Value) (e : Ending) (w' : World) : Prop := e = .returned v ∧ RdP w' p st' ∧ Kept p w.heap.size w w'
/-- A reader of a copy of bytes. -/
def RetNew (w : World) (l : List UInt8) (e : Ending) (w' : World) : Prop := ∃ g, e = .returned (ptr (some g)) ∧ w.heap.size ≤ g ∧ RdP w' (some g) ⟨l, 0⟩ ∧ Below w.heap.size w w'
end Go.Proofs.YtfgjhgecmelccaaDoor
namespace Go.Proofs.YtfgjhgecmelccaaDoor
open Go.RowKit Go.Shelf Go.Maps

/-! The table of math/bits. -/
def Tab (w : World) : Prop := TabAt 1 Lib.deBruijn32tab w
theorem Tab.lt {w : World} (h : Tab w) : 1 < w.heap.size := World.block_lt_of_cell? w _ (h 0 (by decide))
theorem Tab.below {w w' : World} (h : Tab w) (hb : Below w.heap.size w w') : Tab w' := fun j hj => (hb.cell (p := ⟨_, j, none⟩) h.lt).trans (h j hj)
theorem Tab.kept {p : Option Nat} {w w' : World} (h : Tab w) (hb : Kept p w.heap.size w w') (hp : p ≠ some 1) : Tab w' := fun j hj => (hb.cell (q := ⟨_, j, none⟩) h.lt hp).trans (h j hj)

/-! The fields of a mask below 256, rising. -/
def idx8 (m : Nat) : List Int := ((List.range 8).filter m.testBit).map Int.ofNat
/-! slices.AppendSeq's loop: what lies between two rounds. -/
theorem setCell_grown (W : World) (b : Nat) (v : Value) : W.grownBy (W.setCell ⟨b, 0, none⟩ v) (some b) := ⟨rfl, rfl, rfl, by simp [World.setCell], fun k _ hk => Below.heap_setCell _ _ _ k (fun e => hk (by rw [e]))⟩
theorem own_other {W : World} {base : Nat} {e : TypeId} {size : Nat} {v : Value} {k : Nat} {xs : List Value} (h : W.ownsRow base e size v k xs) {j : Nat} {o : Obj} (hj : W.heap[j]? = some o) (hno : ∀ cur, o ≠ .cells cur e (0, 0)) :
    v.ownBlock = none ∨ v.ownBlock ≠ some j := by
  rcases h.2 with ⟨rfl, _⟩ | ⟨g, cap, cur, rfl, _, hgb, _⟩
  · exact .inl rfl
  · refine .inr fun e' => ?_
    have : g = j := by simpa [Value.ownBlock] using e'
    subst this; rw [hgb] at hj; cases hj; exact hno cur rfl
theorem box_set {W : World} {B : Nat} {v : Value} {t : TypeId} (v' : Value) (h : W.heap[B]? = some (.cells #[v] t (0, 0))) : (W.setCell ⟨B, 0, none⟩ v').heap[B]? = some (.cells #[v'] t (0, 0)) := by
  obtain ⟨hlt, hk⟩ := Array.getElem?_eq_some_iff.1 h
  show (W.heap.modify B _)[B]? = _
  rw [Array.getElem?_eq_getElem (by rw [Array.size_modify]; exact hlt), Array.getElem_modify_self, hk]
  rfl
theorem Kept.grown {q : Option Nat} {B : Nat} {a w w' : World} {row : Option Nat} (h : Kept q B a w) (hg : w.grownBy w' row) (hr : ∀ k, row = some k → B ≤ k ∨ q = some k) (hB : B ≤ w.heap.size) : Kept q B a w' :=
  ⟨hg.os.trans h.os, hg.tape.trans h.tape, hg.output.trans h.output, Nat.le_trans h.size hg.size, fun k hk hp => (hg.block k (by omega) (fun e => by
    rcases hr k e.symm with h1 | h1
    · omega
    · exact hp h1)).trans (h.block k hk hp)⟩
def coAssign : Code := (Code.region 2 #[{ dst := some 5, op := Op.assign (Operand.tmp 7), type := 3, pos := "iter.go:51", after := #[], guard := none }] false)
def coBody : Code := (Code.block 1 (Code.region 3 #[{ dst := some 8, op := Op.load 32 (Operand.tmp 2), type := 32, pos := "iter.go:52", after := #[], guard := none }, { dst := some 9, op := Op.move (Operand.tmp 5), type := 3, pos := "iter.go:52", after := #[], guard := none }, { dst := some 10, op := Op.buildSlice 32 1 #[(0, Operand.tmp 9)], type := 32, pos := "iter.go:52", after := #[{ on := 1, ground := Ground.data }], guard := none }, { dst := some 11, op := Op.call { callee := Callee.builtin Builtin.append, args := #[Operand.tmp 8, Operand.tmp 10], argTypes := #[32, 32] }, type := 32, pos := "iter.go:52", after := #[{ on := 0, ground := Ground.data }, { on := 2, ground := Ground.data }], guard := none }, { dst := none, op := Op.store 32 (Operand.tmp 2) (Operand.tmp 11), type := 0, pos := "iter.go:52", after := #[{ on := 3, ground := Ground.data }, { on := 3, ground := Ground.chain }, { on := 0, ground := Ground.phase }, { on := 1, ground := Ground.phase }, { on := 2, ground := Ground.phase }, { on := 3, ground := Ground.phase }], guard := none }] false))
def coRec (fn : FuncId) (sv : Value) (Bs D : Nat) (st : LoopState) (pend : Option Code) : Loop :=
  { state := st, pending := pend, fn, tmps := #[.slice none 0 0, sv, .pointer (some ⟨Bs, 0, none⟩), undef, .slice none 0 0, undef, sv, undef, undef, undef, undef, undef, undef], params := #[7], assign := coAssign, body := coBody, defers := D }
/-- The box holds what has come; the captured variable holds s. -/
structure CoAt (w0 : World) (fn : FuncId) (sv : Value) (Bs l D q : Nat) (s : Nat) (ss : List Int) (W : World) : Prop where
  box : ∃ v, W.heap[Bs]? = some (.cells #[v] 32 (0, 0)) ∧ W.ownsRow w0.heap.size 3 1 v ss.length (ss.flatMap ic)
  L : W.heap[l]? = some (.loop (coRec fn sv Bs D .ready none))
  K : W.heap[D]? = some (.deferred (some []))
  Q : W.heap[q]? = some (.cells #[.int .u32 s] 23 (0, 0))
  kept : Kept (some q) w0.heap.size w0 W
theorem CoAt.store {w0 : World} {fn : FuncId} {sv : Value} {Bs l D q s s' : Nat} {ss : List Int} {W : World} (h : CoAt w0 fn sv Bs l D q s ss W) (h1 : Bs ≠ q) (h2 : l ≠ q) (h3 : D ≠ q) :
    CoAt w0 fn sv Bs l D q s' ss (W.setCell ⟨q, 0, none⟩ (.int .u32 s')) := by
  obtain ⟨⟨v, hv, hrow⟩, hL, hK, hQ, hk⟩ := h
  have ho : ∀ k, k ≠ q → (W.setCell ⟨q, 0, none⟩ (.int .u32 s')).heap[k]? = W.heap[k]? := fun k hk => Below.heap_setCell _ _ _ k hk
  exact ⟨⟨v, (ho _ h1).trans hv, hrow.kept (setCell_grown _ _ _) (own_other hrow hQ (fun cur e => by cases e))⟩, (ho _ h2).trans hL, (ho _ h3).trans hK, box_set _ hQ, hk.setCell (.inr rfl) _⟩

end Go.Proofs.YtfgjhgecmelccaaDoor
namespace Go.Proofs.YtfgjhgecmelccaaDoor
open Go.ChangeShapes Go.WideShapes Go.ChangeAt Go.RowKit

abbrev laidQ : List (String × DataW Unit) := [("math/bits.deBruijn32tab", Rows.laid_math_bits_deBruijn32tab), ("math/bits.deBruijn64tab", Rows.laid_math_bits_deBruijn64tab), ("internal/strconv.uint64pow10", Rows.laid_internal_strconv_uint64pow10), ("unicode/utf8.acceptRanges", Rows.laid_unicode_utf8_acceptRanges), ("unicode/utf8.first", Rows.laid_unicode_utf8_first)]
theorem q_pow : Tryd.prog.globalNamed "internal/strconv.uint64pow10" = some 4 := by kernel_rfl
theorem q_tpow : (Tryd.prog.globals[4]?).map (·.type) = some 266 := by kernel_rfl
theorem q_cpow : Tryd.prog.cellsOf 266 = 20 := by kernel_rfl
theorem q_cu64 : Tryd.prog.cellsOf 253 = 1 := by kernel_rfl
theorem q_tab : Tryd.prog.globalNamed "math/bits.deBruijn32tab" = some 1 := by kernel_rfl
theorem q_ttab : (Tryd.prog.globals[1]?).map (·.type) = some 258 := by kernel_rfl
theorem q_ctab : Tryd.prog.cellsOf 258 = 32 := by kernel_rfl
theorem q_cu8 : Tryd.prog.cellsOf 5 = 1 := by kernel_rfl
theorem powQ_of_laid {W : World} (h : laidMetH Tryd.prog laidQ W) : PowTab W := by
  rw [MakeChecks.laidMetH_plain _ _ _ (by kernel_rfl)] at h
  exact PowTab.of (Lib.tabIs_of_head (zs := Lib.pow10Tab) q_pow q_tpow Tryd.underlying266 Tryd.underlying253 q_cu64 q_cpow h.tail.tail)
theorem tabQ_of_laid {W : World} (h : laidMetH Tryd.prog laidQ W) : Tab W := by
  rw [MakeChecks.laidMetH_plain _ _ _ (by kernel_rfl)] at h
  have hT := Lib.tabIs_of_head (zs := Lib.deBruijn32tab.map Int.ofNat) q_tab q_ttab Tryd.underlying258 Tryd.underlying5 q_cu8 q_ctab h
  intro j hj
  rw [hT.cell q_tab j (by rw [List.length_map]; exact hj)]
  simp [List.getD, hj]
theorem laidQ_met (os : Os) (args : Array Value) : laidMetH Tryd.prog laidQ ((World.laidAll Tryd.prog os laidQ).forCall (fun _ _ => 0) ⟨#[], args, []⟩).memory := by
  rw [MakeChecks.laidMetH_plain _ _ _ (by kernel_rfl)]
  exact laidMet_laidAll _ (by kernel_rfl) (by kernel_rfl)
end Go.Proofs.YtfgjhgecmelccaaDoor
namespace Go.Proofs.YtfgjhgecmelccaaDoor
open Go.ChangeShapes Go.WideShapes Go.ChangeAt Go.RowKit Go.Deep
open Go.ChangeMaps (open_string shut_string)

theorem c_int : Tryd.prog.cellsOf 3 = 1 := by kernel_rfl
end Go.Proofs.YtfgjhgecmelccaaDoor
namespace Go.Proofs.YtfgjhgecmelccaaDoor
open Go.RowKit

theorem elemB : Elem Tryd.prog 50 5 1 1 := Elem.mk' Tryd.underlying50 (z := .int .u8 0) (by kernel_rfl) rfl (by omega) (by omega)

theorem or128 (v : Nat) : bits .or .u8 ((v : Int) % 256) 128 = ((v % 128 + 128 : Nat) : Int) := by
  have h1 := u8_or_nat (v % 256) 128 (Nat.mod_lt _ (by omega)) (by omega)
  have h2 : ∀ a : Fin 256, (a.val ||| 128) = a.val % 128 + 128 := by decide +kernel
  have h3 := h2 ⟨v % 256, Nat.mod_lt _ (by omega)⟩
  simp only at h3
  rw [h3] at h1
  have e : ((v : Int) % 256) = ((v % 256 : Nat) : Int) := by omega
  rw [e]
  refine Eq.trans h1 ?_
  omega

set_option maxHeartbeats 400000 in
set_option maxRecDepth 4000 in
theorem c_octet_Num (l : List UInt8) (A : Option Addr) (c : Nat) (n : Int) (w : World) (h : InB w A c l) :
    Calls Tryd.prog 67 #[.slice A l.length c, .int .i64 n] w (RetS 1 bc 5 w (l ++ num n)) := by
  have hL := h.1
  have hC := h.2.1
  have hS := h.2.2.1
  have EB := elemB
  have H0 : Held w w.heap.size 5 1 (.slice A l.length l.length) l.length (l.flatMap bc) := Held.of_in bc_len (by omega) h
  go_enter Tryd.func67, Tryd.ntmps67
  have Hnum : Hid (l ++ numF 6 (clampN n) = l ++ num n) := by show _ = _; rw [num_def]
  have hlt0 := clampN_lt n
  have hle0 := clampN_le n
  have hci := clampN_int n
  go_wp2_with (fail)
  go_loopw [0, 5] (fun b v wr => ∃ (f vn : Nat) (acc : List UInt8), vn ≤ 1099511627776 ∧ Hid (vn < 128 ^ (f + 1)) ∧ acc.length + f ≤ l.length + 6 ∧ v = .int .i64 vn ∧ Hid (Held wr w.heap.size 5 1 b acc.length (acc.flatMap bc)) ∧ Hid (acc ++ numF f vn = l ++ num n) ∧ Below w.heap.size w wr)
    (fun _ v _ => (intOf v).toNat)
  case atStart => exact ⟨6, clampN n, l, hle0, hlt0, by omega, by rw [hci], H0, Hnum, (by repeat (first | exact Below.refl _ _ | refine Below.drew ?_ | refine Below.alloc ?_ (by first | omega | (simp; done) | (simp; omega)) _ | refine Below.setCell ?_ (by first | omega | (simp; done) | (simp; omega)) _ | refine Below.trans ?_ (Below.mono (by assumption) (by first | omega | (simp; done) | (simp; omega)))))⟩
  case round =>
    obtain ⟨f, vn, acc, hle, hlt, hlen, rfl, H, HN, hbl⟩ := hrel
    have hbz := hbl.size
    obtain ⟨A1, c1, rfl⟩ := H.out.shape
    by_cases hv : vn < 128
    · have HN' : acc ++ [UInt8.ofNat vn] = l ++ num n := by rw [← numF_lt hv]; exact HN.out
      have HF := Lib.hid HN'
      clear HN HN' Hnum hlt hlt0 hci h
      go_wp2_with ((at_builtin; refine Stop.out ?_))
      refine Stop.mk (wpList_appH _ rfl (.tmp 25) (.tmp 28) EB rfl w.heap.size (.slice A1 acc.length c1) acc.length (acc.flatMap bc) rfl (H.out.below ((Below.refl _ _).alloc (Nat.le_refl _) _)) _ 1 1 [.int .u8 vn] rfl (Src.new _ _ _ _ rfl) (by simp [Value.oneCell']) (by omega) (by omega) ?_ ?_)
      · simp only [World.size_alloc]; omega
      intro v2 w2 own2 hb2
      have hfin : Hid (acc.flatMap bc ++ [Value.int .u8 vn] = (l ++ num n).flatMap bc ∧ acc.length + 1 = (l ++ num n).length) := by
        show _ ∧ _
        rw [← HF.out]
        refine ⟨?_, by simp⟩
        rw [List.flatMap_append]
        simp [bc]; omega
      obtain ⟨e1, e2⟩ := hfin.out
      rw [e1, e2] at own2
      have O2 := Lib.hid own2
      clear own2 e1 e2
      go_wp2_with (fail)
      go_ret
      exact ⟨_, rfl, O2.out, Below.trans (b := wr) hbl (Below.trans (b := wr.alloc (.cells #[.int .u8 vn] 5)) (by repeat (first | exact Below.refl _ _ | refine Below.drew ?_ | refine Below.alloc ?_ (by first | omega | (simp; done) | (simp; omega)) _ | refine Below.setCell ?_ (by first | omega | (simp; done) | (simp; omega)) _ | refine Below.trans ?_ (Below.mono (by assumption) (by first | omega | (simp; done) | (simp; omega))))) hb2)⟩
    · obtain ⟨f', rfl⟩ : ∃ f', f = f' + 1 := by
        cases f with
        | zero => exact absurd hlt.out (by omega)
        | succ f => exact ⟨f, rfl⟩
      have hlt2 : Hid (vn / 128 < 128 ^ (f' + 1)) := Nat.div_lt_of_lt_mul (by have := hlt.out; rw [Nat.pow_succ 128 (f' + 1), Nat.mul_comm] at this; exact this)
      have hn2 := HN.out
      rw [numF_ge hv] at hn2
      have HN2 := Lib.hid hn2
      clear HN hn2 hlt hlt0 hci h Hnum
      have hor := or128 vn
      go_wp2_with ((at_builtin; refine Stop.out ?_))
      refine Stop.mk (wpList_appH _ rfl (.tmp 17) (.tmp 21) EB rfl w.heap.size (.slice A1 acc.length c1) acc.length (acc.flatMap bc) rfl (H.out.below ((Below.refl _ _).alloc (Nat.le_refl _) _)) _ 1 1 [.int .u8 ((vn % 128 + 128 : Nat) : Int)] rfl (Src.new _ _ _ _ rfl) (by simp [Value.oneCell']) (by omega) (by omega) ?_ ?_)
      · simp only [World.size_alloc]; omega
      intro v2 w2 own2 hb2
      have hfin : Hid (acc.flatMap bc ++ [Value.int .u8 ((vn % 128 + 128 : Nat) : Int)] = (acc ++ [UInt8.ofNat (vn % 128 + 128)]).flatMap bc ∧ acc.length + 1 = (acc ++ [UInt8.ofNat (vn % 128 + 128)]).length) := by
        show _ ∧ _
        refine ⟨?_, by simp⟩
        rw [List.flatMap_append]
        simp [bc]; omega
      obtain ⟨e1, e2⟩ := hfin.out
      rw [e1, e2] at own2
      have O2 := Lib.hid own2
      have hb3 : Below w.heap.size w w2 := Below.trans (b := wr) hbl (Below.trans (b := wr.alloc (.cells #[.int .u8 ((vn % 128 + 128 : Nat) : Int)] 5)) (by repeat (first | exact Below.refl _ _ | refine Below.drew ?_ | refine Below.alloc ?_ (by first | omega | (simp; done) | (simp; omega)) _ | refine Below.setCell ?_ (by first | omega | (simp; done) | (simp; omega)) _ | refine Below.trans ?_ (Below.mono (by assumption) (by first | omega | (simp; done) | (simp; omega))))) hb2)
      clear own2 e1 e2
      go_wp2_with (fail)
      go_roundw
      case rel =>
        refine ⟨f', vn / 128, acc ++ [UInt8.ofNat (vn % 128 + 128)], by omega, hlt2, by simp; omega, by go_num, .inl O2.out, ?_, hb3⟩
        show _ = _
        rw [← HN2.out]; simp
      case measure => simp [intOf]; omega
set_option maxHeartbeats 400000 in
set_option maxRecDepth 4000 in
theorem c_Clone_b (l : List UInt8) (A : Option Addr) (c : Nat) (w : World) (h : In 1 bc w A c l) :
    Calls Tryd.prog 90 #[.slice A l.length c] w (RetS 1 bc 5 w l) := by
  have hL := h.1
  have hC := h.2.1
  have hS := h.2.2.1
  have EB := elemB
  rcases A with _ | ad
  · have hl : l = [] := by
      rcases h.2.2.2 with h | ⟨b, off, hh, _⟩
      · exact h
      · cases hh
    subst hl
    clear h
    have ke := fun (w : World) (n c : Nat) => Lib.run_eql_slice_nil (P := Tryd.prog) w 50 _ none n c 0 0 Tryd.underlying50
    go_enter Tryd.func90, Tryd.ntmps90
    go_wp2_with (fail)
    go_ret
    exact ⟨_, rfl, World.ownsRow_nil _ _ _ _, Below.refl _ _⟩
  · have ke := fun (w : World) (n c : Nat) => Lib.run_eql_slice_nil (P := Tryd.prog) w 50 _ (some ad) n c 0 0 Tryd.underlying50
    go_enter Tryd.func90, Tryd.ntmps90
    go_wp2_with ((at_builtin; refine Stop.out ?_))
    refine Stop.mk (wpList_app _ rfl (.tmp 5) (.tmp 6) EB rfl w.heap.size (.slice (some ⟨w.heap.size, 0, none⟩) 0 0) 0 [] rfl (World.ownsRow_lit w #[] 0 (Nat.le_refl _) (by unfold maxLen; omega) (by simp)) (some ad) l.length c (l.flatMap bc) rfl (Src.of_in bc_len (by omega) (h.alloc _)) (bc_one _) (by omega) ?_ ?_)
    · simp only [World.size_alloc]; omega
    intro v2 w2 own2 _ hb2 _
    rw [Nat.zero_add, List.nil_append] at own2
    have hb3 : Below w.heap.size w w2 := Below.trans (b := w.alloc (.cells #[] 5)) (by repeat (first | exact Below.refl _ _ | refine Below.drew ?_ | refine Below.alloc ?_ (by first | omega | (simp; done) | (simp; omega)) _ | refine Below.setCell ?_ (by first | omega | (simp; done) | (simp; omega)) _ | refine Below.trans ?_ (Below.mono (by assumption) (by first | omega | (simp; done) | (simp; omega))))) hb2
    go_wp2_with (fail)
    go_ret
    exact ⟨_, rfl, own2, hb3⟩
end Go.Proofs.YtfgjhgecmelccaaDoor
namespace Go.Proofs.YtfgjhgecmelccaaDoor
open Go.RowKit

/-- A value off bytes, and what the reader is then. -/
def rdVal' (st : Rd) : Rd := if rdN st 2 = 1 then rdN' (rdN' st 2) 1099511627776 else if rdN st 2 = 2 then rdS' (rdN' st 2) 24 else rdN' st 2
def rdVal (st : Rd) : Val := if (rdVal' st).e = 0 then ⟨rdN st 2, if rdN st 2 = 1 then rdN (rdN' st 2) 1099511627776 else 0, if rdN st 2 = 2 then rdS (rdN' st 2) 24 else []⟩ else ⟨0, 0, []⟩
/-! A number that is not 0. -/
def rdAb' (st : Rd) (most : Int) : Rd := if rdN st most = 0 then rdF (rdN' st most) 3 else rdN' st most
theorem rdAb'_zero {st : Rd} {most : Int} (h : rdN st most = 0) : rdAb' st most = rdF (rdN' st most) 3 := by unfold rdAb'; rw [if_pos h]
theorem rdAb'_pos {st : Rd} {most : Int} (h : rdN st most ≠ 0) : rdAb' st most = rdN' st most := by unfold rdAb'; rw [if_neg h]
theorem rdAb_num {n most : Int} (r : List UInt8) (h0 : 1 ≤ n) (h1 : n ≤ 1099511627776) (h : n ≤ most) : rdN ⟨num n ++ r, 0⟩ most = n ∧ rdAb' ⟨num n ++ r, 0⟩ most = ⟨r, 0⟩ := by
  obtain ⟨a, b⟩ := rdN_num (n := n) (most := most) r (by omega) h1 h
  exact ⟨a, by rw [rdAb'_pos (by rw [a]; omega), b]⟩
end Go.Proofs.YtfgjhgecmelccaaDoor
namespace Go.Proofs.YtfgjhgecmelccaaDoor
open Go.RowKit

structure Tok where
  dev : Int
  epoch : Int
  seq : Int
  cursor : Int
deriving DecidableEq
abbrev tz : Tok := ⟨0, 0, 0, 0⟩
abbrev Tok.arr (t : Tok) : Array Value := #[.int .i64 t.dev, .int .i64 t.epoch, .int .i64 t.seq, .int .i64 t.cursor]
def Tok.ok (t : Tok) : Bool := decide (0 ≤ t.dev ∧ t.dev ≤ 5 ∧ 1 ≤ t.epoch ∧ t.epoch ≤ 1099511627776 ∧ 0 ≤ t.seq ∧ t.seq ≤ 1099511627776 ∧ 0 ≤ t.cursor ∧ t.cursor ≤ 1073741824)
theorem Tok.ok_iff {t : Tok} : t.ok = true ↔ (0 ≤ t.dev ∧ t.dev ≤ 5 ∧ 1 ≤ t.epoch ∧ t.epoch ≤ 1099511627776 ∧ 0 ≤ t.seq ∧ t.seq ≤ 1099511627776 ∧ 0 ≤ t.cursor ∧ t.cursor ≤ 1073741824) := by unfold Tok.ok; exact decide_eq_true_iff
def tokB (t : Tok) : List UInt8 := if t.ok then num t.dev ++ num t.epoch ++ num t.seq ++ num t.cursor else []
theorem tokB_ok {t : Tok} (h : t.ok = true) : tokB t = num t.dev ++ num t.epoch ++ num t.seq ++ num t.cursor := by unfold tokB; rw [if_pos h]
theorem tokB_bad {t : Tok} (h : t.ok = false) : tokB t = [] := by unfold tokB; rw [h]; rfl
def tkA (st : Rd) : Rd := rdN' st 5
def tkB (st : Rd) : Rd := rdAb' (tkA st) 1099511627776
def tkC (st : Rd) : Rd := rdN' (tkB st) 1099511627776
@[irreducible] def rdTok' (st : Rd) : Rd := rdN' (tkC st) 1073741824
def tkTok (st : Rd) : Tok := ⟨rdN st 5, rdN (tkA st) 1099511627776, rdN (tkB st) 1099511627776, rdN (tkC st) 1073741824⟩
@[irreducible] def rdTok (st : Rd) : Tok := if (rdTok' st).e = 0 then tkTok st else tz
theorem rdTok'_def (st : Rd) : rdTok' st = rdN' (tkC st) 1073741824 := by unfold rdTok'; rfl
theorem rdTok_ok {st : Rd} (h : (rdTok' st).e = 0) : rdTok st = tkTok st := by unfold rdTok; rw [if_pos h]
theorem rdTok_bad {st : Rd} (h : (rdTok' st).e ≠ 0) : rdTok st = tz := by unfold rdTok; rw [if_neg h]
/-- A token that may be is read of its bytes. -/
theorem rdTok_put {t : Tok} (h : t.ok = true) (r : List UInt8) : rdTok ⟨tokB t ++ r, 0⟩ = t ∧ rdTok' ⟨tokB t ++ r, 0⟩ = ⟨r, 0⟩ := by
  obtain ⟨a1, a2, a3, a4, a5, a6, a7, a8⟩ := Tok.ok_iff.1 h
  have e : tokB t ++ r = num t.dev ++ (num t.epoch ++ (num t.seq ++ (num t.cursor ++ r))) := by rw [tokB_ok h]; simp
  obtain ⟨p1, q1⟩ := rdN_num (n := t.dev) (most := 5) (num t.epoch ++ (num t.seq ++ (num t.cursor ++ r))) a1 (by omega) a2
  obtain ⟨p2, q2⟩ := rdAb_num (n := t.epoch) (most := 1099511627776) (num t.seq ++ (num t.cursor ++ r)) a3 a4 a4
  obtain ⟨p3, q3⟩ := rdN_num (n := t.seq) (most := 1099511627776) (num t.cursor ++ r) a5 a6 a6
  obtain ⟨p4, q4⟩ := rdN_num (n := t.cursor) (most := 1073741824) r a7 (by omega) a8
  have hA : tkA ⟨tokB t ++ r, 0⟩ = ⟨num t.epoch ++ (num t.seq ++ (num t.cursor ++ r)), 0⟩ := by unfold tkA; rw [e, q1]
  have hB : tkB ⟨tokB t ++ r, 0⟩ = ⟨num t.seq ++ (num t.cursor ++ r), 0⟩ := by unfold tkB; rw [hA, q2]
  have hC : tkC ⟨tokB t ++ r, 0⟩ = ⟨num t.cursor ++ r, 0⟩ := by unfold tkC; rw [hB, q3]
  have hS : rdTok' ⟨tokB t ++ r, 0⟩ = ⟨r, 0⟩ := by rw [rdTok'_def, hC, q4]
  refine ⟨?_, hS⟩
  rw [rdTok_ok (by rw [hS])]
  unfold tkTok
  rw [hA, hB, hC, p2, p3, p4, e, p1]
end Go.Proofs.YtfgjhgecmelccaaDoor
