/-
  Lemmas (walks and plain laws), in one text.
-/
import Derived.Test.YtkofjkadmknmjaaDoorMt4
import Derived.Test.YtkofjkadmknmjaaDoorRows
import Derived.WalkKit
import Derived.WalkSpells
import Derived.WalkLawsBesides
import Derived.Lib.Hide
import Derived.Deep.QuietTactic
import Derived.BigQuiet
import Derived.Maps.AppendAt
import Derived.WalkSmall
import Derived.ProofKit
import Derived.OpenShut
import Derived.JoinedCond
import Derived.Deep.Slices
import Derived.Deep.Fields
import Derived.Carry
import Derived.HandedShaped
import Derived.Shelf.Small.Wraps
import Derived.Shelf.Utf8.RuneCount
import Derived.Shelf.Strconv.Itoa0
import Derived.Shelf.Strconv.Itoa1
import Derived.Shelf.LaysM
import Derived.Shelf.Strconv.Itoa2
import Derived.Shelf.Strconv.Itoa3
import Derived.Shelf.Strings.Search1
import Derived.Shelf.Strings.Search2
import Derived.Shelf.Strings.Search3
import Derived.Shelf.Strings.Count
import Derived.Shelf.Strings.Shaped
import Derived.Shelf.Strings.Prefix
import Derived.Shelf.Strings.Split
import Derived.Shelf.Strings.SplitShaped
import Derived.Shelf.Unicode.DecodeSlow
import Derived.Test.YtkofjkadmknmjaaDoorProg
import Derived.Deep.AppendSrc
import Derived.Lib.AppendStr
import Derived.Laws.BytesArg
import Derived.Lib.AppendIntMem
import Derived.Lib.ItoaLen
import Derived.Lib.TrailingZeros
import Derived.Lib.SplitLaws
import Derived.Lib.ItoaNum
import Derived.Shelf.Strings.PiecesUse
import Derived.Shelf.Spec.TrailingZeros
import Derived.RangeFuncNested
import Derived.RangeFuncBound
import Derived.RangeFuncCalls
import Derived.RangeFuncLeaves
import Derived.Shelf.Abstract
import Derived.Shelf.RegionOpen
import Derived.OwnWalkIn
import Derived.TacticsInMore
import Derived.LoopNIn
import Derived.LoopIn
import Derived.Test.YtkofjkadmknmjaaDoorTie
import Derived.Lib.LaidTab
import Derived.LaidMore
import Derived.Lay
import Derived.Stop.LaidErr
import Derived.SevenTiedAt
import Derived.Test.YtkofjkadmknmjaaDoorCards
import Derived.StillTail
import Derived.OrdersIn
import Derived.ControlIn
import Derived.Lib.BitFns
import Derived.Deep.CutBlock
import Derived.Deep.DeepCutAuto
import Derived.Laws.IdiomStrings
import Derived.Outline
import Derived.IntWalk
import Derived.Lib.Tables
import Derived.Lib.Strings
namespace Go.Proofs.YtkofjkadmknmjaaDoor
open Go.RowKit Go.Shelf Go.Maps

/-! The table of math/bits. -/
def Tab (w : World) : Prop := TabAt 0 Lib.deBruijn32tab w
theorem Tab.lt {w : World} (h : Tab w) : 0 < w.heap.size := World.block_lt_of_cell? w _ (h 0 (by decide))
theorem Tab.below {w w' : World} (h : Tab w) (hb : Below w.heap.size w w') : Tab w' := fun j hj => (hb.cell (p := ⟨_, j, none⟩) h.lt).trans (h j hj)
theorem Tab.kept {p : Option Nat} {w w' : World} (h : Tab w) (hb : Kept p w.heap.size w w') (hp : p ≠ some 0) : Tab w' := fun j hj => (hb.cell (q := ⟨_, j, none⟩) h.lt hp).trans (h j hj)

set_option maxHeartbeats 1000000 in
theorem tz_core (x k idx : Nat) (w : World) (hx0 : ((x : Int) == 0) = false)
    (key : bits BinOp.and IntKind.u32 (x : Int) (-(x : Int) % 4294967296) * 125613361 % 4294967296 / 134217728 = (idx : Int))
    (hi : idx < 32) (hk : k < 32) (hcell : w.cell? ⟨0, idx, none⟩ = some (.int .u8 k)) :
    Calls Tryd.prog 83 #[.int .u32 x] w fun e w' => e = .returned (.int .i64 k) ∧ w = w' := by
  go_enter Tryd.func83, Tryd.ntmps83
  go_wp2_with (simp only [key])
  go_ret
  exact ⟨rfl, rfl⟩
theorem c_tz (x : Nat) (hx : x < 4294967296) (hx0 : x ≠ 0) (w : World) (hT : Tab w) :
    Calls Tryd.prog 83 #[.int .u32 x] w fun e w' => e = .returned (.int .i64 (Lib.ctz 32 x)) ∧ w = w' := by
  obtain ⟨hlow, hk⟩ := Lib.lowest_bit 32 x hx0 hx
  obtain ⟨hi, htab⟩ := Lib.deBruijn32_at _ hk
  have hcell := hT _ hi
  rw [htab] at hcell
  exact tz_core x _ _ w (by simp; omega) (tz32_key x _ hx hx0 hlow) hi hk hcell

/-! The fields of a mask below 256, rising. -/
def idx8 (m : Nat) : List Int := ((List.range 8).filter m.testBit).map Int.ofNat
theorem idx8_all : ∀ s : Fin 256, s.val ≠ 0 → idx8 s.val = (Lib.ctz 32 s.val : Int) :: idx8 (s.val &&& (s.val - 1)) ∧ (s.val &&& (s.val - 1)) < s.val := by decide +kernel
theorem idx8_zero : idx8 0 = [] := by decide
theorem idx8_len (m : Nat) : (idx8 m).length ≤ 8 := by unfold idx8; rw [List.length_map]; exact List.length_filter_le _ _
set_option maxRecDepth 100000 in
set_option maxHeartbeats 1000000 in
/-- The iterator: it stores what is still to come in its captured variable, block q. -/
theorem each_in (n : Nat) (hn : 1 ≤ n) (l q m : Nat) (hm : m < 256) (J : Nat → List Int → World → Prop)
    (hq : ∀ s pre W, J s pre W → W.cell? ⟨q, 0, none⟩ = some (.int .u32 s) ∧ W.frozen? ⟨q, 0, none⟩ = false ∧ Tab W)
    (hs : ∀ (s s' : Nat) pre W, J s pre W → J s' pre (W.setCell ⟨q, 0, none⟩ (.int .u32 s')))
    (hY : ∀ s pre x W, J s pre W → pre.length < 8 → YieldAt Fence.wide (n - 1) Tryd.prog l #[.int .i64 x] W fun e W' => e = .returned (.bool true) ∧ J s (pre ++ [x]) W')
    (W : World) (h0 : J m [] W) :
    CallsIn Fence.wide n Tryd.prog 82 #[.func (.yield l) #[] #[], .pointer (some ⟨q, 0, none⟩)] W fun e W' => (∃ v, e = .returned v) ∧ J 0 (idx8 m) W' := by
  refine callsIn_of_wp Tryd.func82 rfl trivial ?_ rfl
  simp only [Tryd.ntmps82, List.size_toArray, List.length_cons, List.length_nil, Nat.reduceAdd, Nat.reduceSub, Array.replicate_succ, Array.replicate_zero, List.push_toArray, List.append_toArray, List.nil_append, List.cons_append]
  gi_wp2
  gi_loopw [3] (fun _ wr => ∃ (pre : List Int) (s : Nat), s < 256 ∧ pre ++ idx8 s = idx8 m ∧ J s pre wr) (fun _ wr => match wr.cell? ⟨q, 0, none⟩ with | some (.int _ z) => z.toNat | _ => 0)
  case atStart => exact ⟨[], m, hm, rfl, h0⟩
  case round =>
    obtain ⟨pre, s, hs2, hp, hJ⟩ := hrel
    obtain ⟨hc, hf, hT⟩ := hq _ _ _ hJ
    by_cases hz : s = 0
    · subst hz
      gi_wp2
      go_end0
      refine ⟨⟨_, rfl⟩, ?_⟩
      rw [idx8_zero, List.append_nil] at hp
      rw [← hp]
      exact hJ
    · obtain ⟨hi1, hi2⟩ := idx8_all ⟨s, hs2⟩ hz
      simp only at hi1 hi2
      have hlen : pre.length < 8 := by
        have := idx8_len m
        rw [← hp, hi1, List.length_append, List.length_cons] at this
        omega
      obtain ⟨fn, tmps, assign, body, hy, hR⟩ := hY s pre (Lib.ctz 32 s) wr hJ hlen
      have hne : (!((s : Int) == 0)) = true := by simp; omega
      gi_wp2_with (first
        | (refine ⟨trivial, ?_⟩; gi_at_call 83; refine (callsIn_wide.2 (c_tz s (by omega) hz _ hT)).mono ?_; rintro e w1 ⟨rfl, rfl⟩)
        | (gi_at_call 83; refine (callsIn_wide.2 (c_tz s (by omega) hz _ hT)).mono ?_; rintro e w1 ⟨rfl, rfl⟩))
      refine hR.mono ?_
      rintro e W3 ⟨rfl, hJ3⟩
      obtain ⟨hc3, hf3, _⟩ := hq _ _ _ hJ3
      have hJ4 := hs _ (s &&& (s - 1)) _ _ hJ3
      obtain ⟨hc4, _, _⟩ := hq _ _ _ hJ4
      have hb1 : (1 : Int) ≤ s := by omega
      have hb2 : (s : Int) ≤ 255 := by omega
      have ha : bits .and .u32 (s : Int) ((s : Int) - 1) = ((s &&& (s - 1) : Nat) : Int) := by
        have := and_u32 s (s - 1) (by omega) (by omega)
        rw [← this]
        congr 1
        omega
      have C4 := Lib.hid hc4
      clear hc4 hy
      gi_wp2
      go_roundw
      case rel => exact ⟨pre ++ [(Lib.ctz 32 s : Int)], s &&& (s - 1), by omega, by rw [List.append_assoc, List.singleton_append, ← hi1]; exact hp, hJ4⟩
      case measure => rw [C4.out, hc]; simpa using hi2

/-! slices.AppendSeq's loop: what lies between two rounds. -/
theorem putObj_grown (W : World) (l : Nat) (o : Obj) : W.grownBy (W.putObj l o) (some l) := ⟨rfl, rfl, rfl, by simp, fun k _ hk => World.putObj_heap_other (fun e => hk (by rw [e]))⟩
theorem setCell_grown (W : World) (b : Nat) (v : Value) : W.grownBy (W.setCell ⟨b, 0, none⟩ v) (some b) := ⟨rfl, rfl, rfl, by simp [World.setCell], fun k _ hk => Below.heap_setCell _ _ _ k (fun e => hk (by rw [e]))⟩
theorem own_other {W : World} {base : Nat} {e : TypeId} {size : Nat} {v : Value} {k : Nat} {xs : List Value} (h : W.ownsRow base e size v k xs) {j : Nat} {o : Obj} (hj : W.heap[j]? = some o) (hno : ∀ cur, o ≠ .cells cur e (0, 0)) :
    v.ownBlock = none ∨ v.ownBlock ≠ some j := by
  rcases h.2 with ⟨rfl, _⟩ | ⟨g, cap, cur, rfl, _, hgb, _⟩
  · exact .inl rfl
  · refine .inr fun e' => ?_
    have : g = j := by simpa [Value.ownBlock] using e'
    subst this; rw [hgb] at hj; cases hj; exact hno cur rfl
theorem box_cell {W : World} {B : Nat} {v : Value} {t : TypeId} (h : W.heap[B]? = some (.cells #[v] t (0, 0))) : W.cell? ⟨B, 0, none⟩ = some v ∧ W.frozen? ⟨B, 0, none⟩ = false := by
  constructor <;> simp [World.cell?, World.frozen?, h]
theorem box_set {W : World} {B : Nat} {v : Value} {t : TypeId} (v' : Value) (h : W.heap[B]? = some (.cells #[v] t (0, 0))) : (W.setCell ⟨B, 0, none⟩ v').heap[B]? = some (.cells #[v'] t (0, 0)) := by
  obtain ⟨hlt, hk⟩ := Array.getElem?_eq_some_iff.1 h
  show (W.heap.modify B _)[B]? = _
  rw [Array.getElem?_eq_getElem (by rw [Array.size_modify]; exact hlt), Array.getElem_modify_self, hk]
  rfl
theorem Kept.grown {q : Option Nat} {B : Nat} {a w w' : World} {row : Option Nat} (h : Kept q B a w) (hg : w.grownBy w' row) (hr : ∀ k, row = some k → B ≤ k ∨ q = some k) (hB : B ≤ w.heap.size) : Kept q B a w' :=
  ⟨hg.os.trans h.os, hg.tape.trans h.tape, hg.output.trans h.output, Nat.le_trans h.size hg.size, fun k hk hp => (hg.block k (by omega) (fun e => by
    rcases hr k e.symm with h1 | h1
    · omega
    · exact hp h1)).trans (h.block k hk hp)⟩
def coAssign : Code := (Code.region 2 #[{ dst := some 5, op := Op.assign (Operand.tmp 7), type := 3, pos := "iter.go:51", after := #[], guard := none }] false)
def coBody : Code := (Code.block 1 (Code.region 3 #[{ dst := some 8, op := Op.load 44 (Operand.tmp 2), type := 44, pos := "iter.go:52", after := #[], guard := none }, { dst := some 9, op := Op.move (Operand.tmp 5), type := 3, pos := "iter.go:52", after := #[], guard := none }, { dst := some 10, op := Op.buildSlice 44 1 #[(0, Operand.tmp 9)], type := 44, pos := "iter.go:52", after := #[{ on := 1, ground := Ground.data }], guard := none }, { dst := some 11, op := Op.call { callee := Callee.builtin Builtin.append, args := #[Operand.tmp 8, Operand.tmp 10], argTypes := #[44, 44] }, type := 44, pos := "iter.go:52", after := #[{ on := 0, ground := Ground.data }, { on := 2, ground := Ground.data }], guard := none }, { dst := none, op := Op.store 44 (Operand.tmp 2) (Operand.tmp 11), type := 0, pos := "iter.go:52", after := #[{ on := 3, ground := Ground.data }, { on := 3, ground := Ground.chain }, { on := 0, ground := Ground.phase }, { on := 1, ground := Ground.phase }, { on := 2, ground := Ground.phase }, { on := 3, ground := Ground.phase }], guard := none }] false))
def coRec (fn : FuncId) (sv : Value) (Bs D : Nat) (st : LoopState) (pend : Option Code) : Loop :=
  { state := st, pending := pend, fn, tmps := #[.slice none 0 0, sv, .pointer (some ⟨Bs, 0, none⟩), undef, .slice none 0 0, undef, sv, undef, undef, undef, undef, undef, undef], params := #[7], assign := coAssign, body := coBody, defers := D }
/-- The box holds what has come; the captured variable holds s. -/
structure CoAt (w0 : World) (fn : FuncId) (sv : Value) (Bs l D q : Nat) (s : Nat) (ss : List Int) (W : World) : Prop where
  box : ∃ v, W.heap[Bs]? = some (.cells #[v] 44 (0, 0)) ∧ W.ownsRow w0.heap.size 3 1 v ss.length (ss.flatMap ic)
  L : W.heap[l]? = some (.loop (coRec fn sv Bs D .ready none))
  K : W.heap[D]? = some (.deferred (some []))
  Q : W.heap[q]? = some (.cells #[.int .u32 s] 35 (0, 0))
  kept : Kept (some q) w0.heap.size w0 W
theorem elemI : Elem Tryd.prog 44 3 1 8 := Elem.mk' (z := .int .i64 0) Tryd.underlying44 (by kernel_rfl) rfl (by omega) (by omega)
theorem infoI : (Tryd.prog.info? 3).map (fun i => (i.zero, i.size, i.bytes)) = some (some (.int .i64 0), 1, 8) := by kernel_rfl
theorem CoAt.store {w0 : World} {fn : FuncId} {sv : Value} {Bs l D q s s' : Nat} {ss : List Int} {W : World} (h : CoAt w0 fn sv Bs l D q s ss W) (h1 : Bs ≠ q) (h2 : l ≠ q) (h3 : D ≠ q) :
    CoAt w0 fn sv Bs l D q s' ss (W.setCell ⟨q, 0, none⟩ (.int .u32 s')) := by
  obtain ⟨⟨v, hv, hrow⟩, hL, hK, hQ, hk⟩ := h
  have ho : ∀ k, k ≠ q → (W.setCell ⟨q, 0, none⟩ (.int .u32 s')).heap[k]? = W.heap[k]? := fun k hk => Below.heap_setCell _ _ _ k hk
  exact ⟨⟨v, (ho _ h1).trans hv, hrow.kept (setCell_grown _ _ _) (own_other hrow hQ (fun cur e => by cases e))⟩, (ho _ h2).trans hL, (ho _ h3).trans hK, box_set _ hQ, hk.setCell (.inr rfl) _⟩

set_option maxRecDepth 100000 in
set_option maxHeartbeats 2000000 in
theorem co_yield (m : Nat) (w0 : World) (fn : FuncId) (sv : Value) (Bs l D q : Nat) (hBl : Bs ≠ l) (hDl : D ≠ l) (hDB : D ≠ Bs) (hql : q ≠ l) (hqB : q ≠ Bs) (h0B : w0.heap.size ≤ Bs) (h0l : w0.heap.size ≤ l)
    (s : Nat) (ss : List Int) (x : Int) (W : World) (h : CoAt w0 fn sv Bs l D q s ss W) (hlen : ss.length < 1000) :
    YieldAt Fence.wide m Tryd.prog l #[.int .i64 x] W fun e W' => e = .returned (.bool true) ∧ CoAt w0 fn sv Bs l D q s (ss ++ [x]) W' := by
  obtain ⟨i0, hi, hz0, hz1, hz2⟩ := info_parts infoI
  obtain ⟨v, hv, hrow⟩ := h.box
  refine ⟨fn, #[.slice none 0 0, sv, .pointer (some ⟨Bs, 0, none⟩), undef, .slice none 0 0, undef, sv, .int .i64 x, undef, undef, undef, undef, undef], coAssign, coBody, by simpa [coRec] using run_yield (P := Tryd.prog) (args := #[.int .i64 x]) h.L rfl, roundIn_of_wpIn trivial ?_⟩
  have hl : l < W.heap.size := (Array.getElem?_eq_some_iff.1 h.L).1
  have hbr := run_beginRound (P := Tryd.prog) h.L rfl
  obtain ⟨W2, hW2⟩ : ∃ W2, W.putObj l (.loop { coRec fn sv Bs D .ready none with state := .busy }) = W2 := ⟨_, rfl⟩
  rw [hW2] at hbr
  have hg2 : W.grownBy W2 (some l) := by rw [← hW2]; exact putObj_grown _ _ _
  have hv2 : W2.heap[Bs]? = some (.cells #[v] 44 (0, 0)) := by rw [← hW2]; exact (World.putObj_heap_other hBl).trans hv
  have hK2 : W2.heap[D]? = some (.deferred (some [])) := by rw [← hW2]; exact (World.putObj_heap_other hDl).trans h.K
  have hQ2 : W2.heap[q]? = some (.cells #[.int .u32 s] 35 (0, 0)) := by rw [← hW2]; exact (World.putObj_heap_other hql).trans h.Q
  have hL2 : W2.heap[l]? = some (.loop { coRec fn sv Bs D .ready none with state := .busy }) := by rw [← hW2]; exact World.putObj_heap_same hl
  have hrow2 : W2.ownsRow w0.heap.size 3 1 v ss.length (ss.flatMap ic) := hrow.kept hg2 (own_other hrow h.L (fun cur e => by cases e))
  have hb2 : Kept (some q) w0.heap.size w0 W2 := h.kept.grown hg2 (fun k e => by cases e; exact .inl h0l) h.kept.size
  obtain ⟨hc2, hf2⟩ := box_cell hv2
  have hBlt : Bs < W2.heap.size := (Array.getElem?_eq_some_iff.1 hv2).1
  have hl2 : l < W2.heap.size := (Array.getElem?_eq_some_iff.1 hL2).1
  have hDlt : D < W2.heap.size := (Array.getElem?_eq_some_iff.1 hK2).1
  have hQlt : q < W2.heap.size := (Array.getElem?_eq_some_iff.1 hQ2).1
  have ne_of : ∀ {j : Nat} {o : Obj}, W2.heap[j]? = some o → (∀ cur, o ≠ .cells cur 3 (0, 0)) → some j ≠ v.ownBlock := fun hj hno => by
    rcases own_other hrow2 hj hno with e | e
    · rw [e]; simp
    · exact fun e' => e e'.symm
  clear hW2
  unfold coAssign
  gi_wp2_with (rw [Oper.semAt_eq _ _ _ (fun c h => by cases h)]; go_simp; try go_bits)
  unfold coBody
  gi_wp2_with (first
    | (gi_at_builtin; refine wpListIn_append_own _ rfl _ _ 44 rfl w0.heap.size 3 i0 (.int .i64 0) 1 8 Tryd.underlying44 hi hz0 hz1 hz2 rfl (by decide) _ _ _ rfl (hrow2.alloc _) ⟨W2.heap.size, 0, none⟩ 1 1 [.int .i64 x] rfl rfl (cell_one_new _ _ _) (by simp [Value.oneCell']) (by unfold maxLen; omega) (by omega) (by have := hb2.size; simp; omega) ?_; intro v' w3 hown' hg3 hnil3
       have hv3 : w3.heap[Bs]? = some (.cells #[v] 44 (0, 0)) := (hg3.block Bs (by simp; omega) (ne_of hv2 (fun cur e => by cases e))).trans ((Below.heap_alloc _ _ Bs hBlt).trans hv2)
       obtain ⟨hc3, hf3⟩ := box_cell hv3
       obtain ⟨g', cap', cur', rfl, hbase', hgb', hr1, hr2, hr3, hr4⟩ : ∃ g' cap' cur', v' = .slice (some ⟨g', 0, none⟩) (ss.length + 1) cap' ∧ w0.heap.size ≤ g' ∧ w3.heap[g']? = some (.cells cur' 3 (0, 0)) ∧ ss.length + 1 ≤ cap' ∧ cap' ≤ maxLen ∧ cur'.size = cap' * 1 ∧ cur'.toList.take ((ss.length + 1) * 1) = ss.flatMap ic ++ [.int .i64 x] := by
         rcases hown'.2 with ⟨_, h0⟩ | h'
         · exact absurd h0 (by omega)
         · exact h'
       go_frame)
    | (rw [Oper.semAt_eq _ _ _ (fun c h => by cases h)]; go_simp; try go_bits))
  have hg3' : (W2.alloc (.cells #[.int .i64 x] 3)).grownBy w3 v.ownBlock := hg3
  have hL3 : w3.heap[l]? = some (.loop { coRec fn sv Bs D .ready none with state := .busy }) := (hg3'.block l (by simp; omega) (ne_of hL2 (fun cur e => by cases e))).trans ((Below.heap_alloc _ _ l hl2).trans hL2)
  have hK3 : w3.heap[D]? = some (.deferred (some [])) := (hg3'.block D (by simp; omega) (ne_of hK2 (fun cur e => by cases e))).trans ((Below.heap_alloc _ _ D hDlt).trans hK2)
  have hQ3 : w3.heap[q]? = some (.cells #[.int .u32 s] 35 (0, 0)) := (hg3'.block q (by simp; omega) (ne_of hQ2 (fun cur e => by cases e))).trans ((Below.heap_alloc _ _ q hQlt).trans hQ2)
  obtain ⟨w4, hw4⟩ : ∃ w4, w3.setCell ⟨Bs, 0, none⟩ (.slice (some ⟨g', 0, none⟩) (ss.length + 1) cap') = w4 := ⟨_, rfl⟩
  rw [hw4]
  have hg4 : w3.grownBy w4 (some Bs) := by rw [← hw4]; exact setCell_grown _ _ _
  have hv4 : w4.heap[Bs]? = some (.cells #[.slice (some ⟨g', 0, none⟩) (ss.length + 1) cap'] 44 (0, 0)) := by rw [← hw4]; exact box_set _ hv3
  have hL4 : w4.heap[l]? = some (.loop { coRec fn sv Bs D .ready none with state := .busy }) := (hg4.block l (Array.getElem?_eq_some_iff.1 hL3).1 (fun e => hBl (by cases e; rfl))).trans hL3
  have hK4 : w4.heap[D]? = some (.deferred (some [])) := (hg4.block D (Array.getElem?_eq_some_iff.1 hK3).1 (fun e => hDB (by cases e; rfl))).trans hK3
  have hQ4 : w4.heap[q]? = some (.cells #[.int .u32 s] 35 (0, 0)) := (hg4.block q (Array.getElem?_eq_some_iff.1 hQ3).1 (fun e => hqB (by cases e; rfl))).trans hQ3
  have hrow4 := hown'.kept hg4 (own_other hown' hv3 (fun cur e => by cases e))
  have hl4 : l < w4.heap.size := (Array.getElem?_eq_some_iff.1 hL4).1
  have hb3 : Kept (some q) w0.heap.size w0 w3 := (hb2.alloc hb2.size _).grown hg3' (fun k e => .inl (hrow2.lt k e).1) (by have := hb2.size; simp; omega)
  have hb4 : Kept (some q) w0.heap.size w0 w4 := hb3.grown hg4 (fun k e => by cases e; exact .inl h0B) hb3.size
  clear hw4
  refine ⟨_, _, run_endRound none hL4, rfl, ⟨⟨_, (World.putObj_heap_other hBl).trans hv4, ?_⟩, World.putObj_heap_same hl4, (World.putObj_heap_other hDl).trans hK4, (World.putObj_heap_other hql).trans hQ4, hb4.grown (putObj_grown _ _ _) (fun k e => by cases e; exact .inl h0l) hb4.size⟩⟩
  have := hrow4.kept (putObj_grown w4 l (.loop { { coRec fn sv Bs D .ready none with state := .busy } with state := if (none : Option Code).isNone then .ready else .done, pending := none })) (own_other hrow4 hL4 (fun cur e => by cases e))
  simpa [ic] using this

set_option maxRecDepth 100000 in
set_option maxHeartbeats 2000000 in
/-- slices.AppendSeq(nil, ..) of the iterator. -/
theorem c_AppendSeq (q m : Nat) (hm : m < 256) (w : World) (hq : w.heap[q]? = some (.cells #[.int .u32 m] 35 (0, 0))) (hT : Tab w) (hqt : q ≠ 0) :
    Calls Tryd.prog 96 #[.slice none 0 0, .func (.func 82) #[] #[.pointer (some ⟨q, 0, none⟩)]] w fun e w' =>
      ∃ v, e = .returned v ∧ w'.ownsRow w.heap.size 3 1 v (idx8 m).length ((idx8 m).flatMap ic) ∧ Kept (some q) w.heap.size w w' := by
  refine (callsIn_wide (n := 8)).1 ?_
  refine callsIn_of_wp_marks Tryd.func96 rfl trivial ?_ rfl
  simp only [Tryd.ntmps96, List.size_toArray, List.length_cons, List.length_nil, Nat.reduceAdd, Nat.reduceSub, Array.replicate_succ, Array.replicate_zero, List.push_toArray, List.append_toArray, List.nil_append, List.cons_append]
  gi_wp2
  refine wpIn_rangeFunc ?_
  intro fn hfn
  have hql : q < w.heap.size := (Array.getElem?_eq_some_iff.1 hq).1
  obtain ⟨sv, hsv⟩ : ∃ sv, sv = (.func (.func 82) #[] #[.pointer (some ⟨q, 0, none⟩)] : Value) := ⟨_, rfl⟩
  obtain ⟨W0, hW0⟩ : ∃ W0, w.alloc (.cells #[.slice none 0 0] 44) = W0 := ⟨_, rfl⟩
  have hs0 : W0.heap.size = w.heap.size + 1 := by rw [← hW0]; simp
  have hv0 : W0.heap[w.heap.size]? = some (.cells #[.slice none 0 0] 44 (0, 0)) := by rw [← hW0]; exact World.alloc_heap_new w _
  have hb0 : Below w.heap.size w W0 := by rw [← hW0]; exact (Below.refl _ w).alloc (Nat.le_refl _) _
  rw [hW0]
  obtain ⟨W1, hW1⟩ : ∃ W1, (W0.alloc (.deferred (some []))).alloc (.loop (coRec fn sv w.heap.size W0.heap.size .ready none)) = W1 := ⟨_, rfl⟩
  have hold : ∀ k, k < W0.heap.size → W1.heap[k]? = W0.heap[k]? := fun k hk => by
    rw [← hW1]; exact (Below.heap_alloc _ _ k (by simp; omega)).trans (Below.heap_alloc _ _ k hk)
  have hb1 : Below w.heap.size w W1 := by rw [← hW1]; exact (hb0.alloc hb0.size _).alloc (by have := hb0.size; simp; omega) _
  have hs1 : W1.heap.size = W0.heap.size + 2 := by rw [← hW1]; simp
  have hM : CoAt w fn sv w.heap.size (W0.heap.size + 1) W0.heap.size q m [] W1 :=
    ⟨⟨_, (hold w.heap.size (by omega)).trans hv0, ⟨rfl, .inl ⟨rfl, rfl⟩⟩⟩,
     by rw [← hW1]; have := World.alloc_heap_new (W0.alloc (.deferred (some []))) (.loop (coRec fn sv w.heap.size W0.heap.size .ready none)); rwa [World.size_alloc] at this,
     by rw [← hW1]; exact (Below.heap_alloc _ _ _ (by simp)).trans (World.alloc_heap_new W0 _), (hb1.block q hql).trans hq, .of_below hb1⟩
  refine ⟨W0.heap.size + 1, [{ target := .collected W0.heap.size, args := #[] }], W1, { target := .fn (.func 82) #[.pointer (some ⟨q, 0, none⟩)], args := #[.func (.yield (W0.heap.size + 1)) #[] #[]] }, W1, 82,
    #[.func (.yield (W0.heap.size + 1)) #[] #[], .pointer (some ⟨q, 0, none⟩)], W1, ?_, ?_, ?_, ?_, fun _ => by omega, ?_⟩
  · rw [← hW1, hsv]; exact run_enterLoop_outer _ _ _ _ _
  · simp [resolve, go_sem]
  · intro f' _; trivial
  · simp [invoke, go_sem]
  · refine (each_in 7 (by omega) (W0.heap.size + 1) q m hm (fun s pre W => CoAt w fn sv w.heap.size (W0.heap.size + 1) W0.heap.size q s pre W)
      (fun s pre W h => ⟨(box_cell h.Q).1, (box_cell h.Q).2, hT.kept h.kept (fun e => hqt (by cases e; rfl))⟩)
      (fun s s' pre W h => h.store (by omega) (by omega) (by omega))
      (fun s pre x W h hl => co_yield _ w fn sv w.heap.size (W0.heap.size + 1) W0.heap.size q (by omega) (by omega) (by omega) (by omega) (by omega) (Nat.le_refl _) (by omega) s pre x W h (by omega)) W1 hM).mono ?_
    rintro e W2 ⟨⟨v0, rfl⟩, h2⟩
    obtain ⟨v, hv, hrow⟩ := h2.box
    have hend := run_endLoop (P := Tryd.prog) h2.L (by simp [coRec])
    obtain ⟨W3, hW3⟩ : ∃ W3, W2.putObj (W0.heap.size + 1) (.loop { coRec fn sv w.heap.size W0.heap.size .ready none with state := .exhausted }) = W3 := ⟨_, rfl⟩
    rw [hW3] at hend
    have hg3 : W2.grownBy W3 (some (W0.heap.size + 1)) := by rw [← hW3]; exact putObj_grown _ _ _
    have hv3 : W3.heap[w.heap.size]? = some (.cells #[v] 44 (0, 0)) := by rw [← hW3]; exact (World.putObj_heap_other (by omega)).trans hv
    have hK3 : W3.heap[W0.heap.size]? = some (.deferred (some [])) := by rw [← hW3]; exact (World.putObj_heap_other (by omega)).trans h2.K
    have hrow3 := hrow.kept hg3 (own_other hrow h2.L (fun cur e => by cases e))
    have hb3 : Kept (some q) w.heap.size w W3 := h2.kept.grown hg3 (fun k e => by cases e; exact .inl (by omega)) h2.kept.size
    obtain ⟨hc3, hf3⟩ := box_cell hv3
    clear hW3 hsv
    refine ⟨none, W3, hend, ?_⟩
    gi_wp2
    rw [← hs0]
    refine ⟨by simp, .inl ⟨_, _, rfl, run_takeDeferred hK3, ?_⟩⟩
    exact ⟨_, results_tmp rfl _ _ _, v, rfl, hrow3.kept (putObj_grown _ _ _) (own_other hrow3 hK3 (fun cur e => by cases e)), hb3.grown (putObj_grown _ _ _) (fun k e => by cases e; exact .inl (by omega)) hb3.size⟩
set_option maxHeartbeats 400000 in
theorem c_Collect (q m : Nat) (hm : m < 256) (w : World) (hq : w.heap[q]? = some (.cells #[.int .u32 m] 35 (0, 0))) (hT : Tab w) (hqt : q ≠ 0) :
    Calls Tryd.prog 87 #[.func (.func 82) #[] #[.pointer (some ⟨q, 0, none⟩)]] w fun e w' =>
      ∃ v, e = .returned v ∧ w'.ownsRow w.heap.size 3 1 v (idx8 m).length ((idx8 m).flatMap ic) ∧ Kept (some q) w.heap.size w w' := by
  go_enter Tryd.func87, Tryd.ntmps87
  go_wp2_with (go_at_call 96; refine (c_AppendSeq q m hm _ hq hT hqt).mono ?_; rintro e w1 ⟨v1, rfl, own1, hk1⟩)
  go_ret
  exact ⟨_, rfl, own1, hk1⟩
theorem c_bits_Each (m : Nat) (w : World) : Calls Tryd.prog 46 #[.int .u32 m] w fun e w' => e = .returned (.func (.func 82) #[] #[.pointer (some ⟨w.heap.size, 0, none⟩)]) ∧ w' = w.alloc (.cells #[.int .u32 m] 35) := by
  go_enter Tryd.func46, Tryd.ntmps46
  go_wp2
  go_ret
  exact ⟨rfl, rfl⟩
/-- A mask's fields. -/
theorem c_mask_Fields (m : Nat) (hm : m < 4294967296) (w : World) (hT : Tab w) : Calls Tryd.prog 61 #[.int .u32 m] w (RetS 1 ic 3 w (idx8 m)) := by
  have ho : bits .and .u32 (m : Int) 255 = ((m % 256 : Nat) : Int) := by
    have := and_u32 m 255 hm (by omega)
    rw [Nat.and_two_pow_sub_one_eq_mod m 8] at this
    exact this
  have hlt := hT.lt
  have H := Lib.hid (show idx8 (m % 256) = idx8 m by
    unfold idx8
    congr 1
    refine List.filter_congr fun i hi => ?_
    have := List.mem_range.1 hi
    rw [show (256 : Nat) = 2 ^ 8 from rfl, Nat.testBit_mod_two_pow]
    simp [this])
  go_enter Tryd.func61, Tryd.ntmps61
  go_wp2_with (first
    | (go_at_call 46; refine (c_bits_Each (m % 256) _).mono ?_; rintro e w1 ⟨rfl, rfl⟩)
    | (go_at_call 87; refine (c_Collect w.heap.size (m % 256) (by omega) _ (World.alloc_heap_new w _) (hT.below (by repeat (first | exact Below.refl _ _ | refine Below.drew ?_ | refine Below.alloc ?_ (by first | omega | (simp; done) | (simp; omega)) _ | refine Below.setCell ?_ (by first | omega | (simp; done) | (simp; omega)) _ | refine Below.trans ?_ (Below.mono (by assumption) (by first | omega | (simp; done) | (simp; omega)))))) (by omega)).mono ?_; rintro e w2 ⟨v2, rfl, own2, hk2⟩))
  go_ret
  rw [H.out] at own2
  exact RetS.of own2 (by simp) rfl (((Below.refl _ _).alloc (Nat.le_refl _) _).trans (hk2.below (by simp) (fun g e => by cases e; exact Nat.le_refl _)))
end Go.Proofs.YtkofjkadmknmjaaDoor
namespace Go.Proofs.YtkofjkadmknmjaaDoor
open Go.ChangeShapes Go.WideShapes Go.ChangeAt Go.RowKit

abbrev laidQ : List (String × DataW Unit) := [("math/bits.deBruijn32tab", Rows.laid_math_bits_deBruijn32tab), ("math/bits.deBruijn64tab", Rows.laid_math_bits_deBruijn64tab), ("internal/strconv.uint64pow10", Rows.laid_internal_strconv_uint64pow10), ("unicode/utf8.acceptRanges", Rows.laid_unicode_utf8_acceptRanges), ("unicode/utf8.first", Rows.laid_unicode_utf8_first)]
theorem q_pow : Tryd.prog.globalNamed "internal/strconv.uint64pow10" = some 2 := by kernel_rfl
theorem q_tpow : (Tryd.prog.globals[2]?).map (·.type) = some 98 := by kernel_rfl
theorem q_cpow : Tryd.prog.cellsOf 98 = 20 := by kernel_rfl
theorem q_cu64 : Tryd.prog.cellsOf 90 = 1 := by kernel_rfl
theorem q_tab : Tryd.prog.globalNamed "math/bits.deBruijn32tab" = some 0 := by kernel_rfl
theorem q_ttab : (Tryd.prog.globals[0]?).map (·.type) = some 80 := by kernel_rfl
theorem q_ctab : Tryd.prog.cellsOf 80 = 32 := by kernel_rfl
theorem q_cu8 : Tryd.prog.cellsOf 5 = 1 := by kernel_rfl
theorem powQ_of_laid {W : World} (h : laidMetH Tryd.prog laidQ W) : PowTab W := by
  rw [MakeChecks.laidMetH_plain _ _ _ (by kernel_rfl)] at h
  exact PowTab.of (Lib.tabIs_of_head (zs := Lib.pow10Tab) q_pow q_tpow Tryd.underlying98 Tryd.underlying90 q_cu64 q_cpow h.tail.tail)
theorem tabQ_of_laid {W : World} (h : laidMetH Tryd.prog laidQ W) : Tab W := by
  rw [MakeChecks.laidMetH_plain _ _ _ (by kernel_rfl)] at h
  have hT := Lib.tabIs_of_head (zs := Lib.deBruijn32tab.map Int.ofNat) q_tab q_ttab Tryd.underlying80 Tryd.underlying5 q_cu8 q_ctab h
  intro j hj
  rw [hT.cell q_tab j (by rw [List.length_map]; exact hj)]
  simp [List.getD, hj]
theorem laidQ_met (os : Os) (args : Array Value) : laidMetH Tryd.prog laidQ ((World.laidAll Tryd.prog os laidQ).forCall (fun _ _ => 0) ⟨#[], args, []⟩).memory := by
  rw [MakeChecks.laidMetH_plain _ _ _ (by kernel_rfl)]
  exact laidMet_laidAll _ (by kernel_rfl) (by kernel_rfl)
end Go.Proofs.YtkofjkadmknmjaaDoor
