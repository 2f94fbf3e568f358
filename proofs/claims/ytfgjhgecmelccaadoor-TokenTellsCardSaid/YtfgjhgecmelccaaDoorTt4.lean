/-
  Lemmas (walks and plain laws), in one text.
-/
import Derived.Test.YtfgjhgecmelccaaDoorTt3
import Derived.Test.YtfgjhgecmelccaaDoorRows
import Derived.WalkKit
import Derived.WalkSpells
import Derived.WalkLawsBesides
import Derived.Lib.Hide
import Derived.Deep.QuietTactic
import Derived.BigQuiet
import Derived.Maps.AppendAt
import Derived.WalkSmall
import Derived.ProofKit
import Derived.OpenShut
import Derived.JoinedCond
import Derived.Deep.Slices
import Derived.Deep.Fields
import Derived.Carry
import Derived.HandedShaped
import Derived.Shelf.Strings.Builder1
import Derived.Shelf.Strings.Builder2
import Derived.Shelf.Strings.OnBuilder
import Derived.Shelf.Small.Wraps
import Derived.Shelf.Utf8.RuneCount
import Derived.Shelf.Strconv.Itoa0
import Derived.Shelf.Strconv.Itoa1
import Derived.Shelf.LaysM
import Derived.Shelf.Strconv.Itoa2
import Derived.Shelf.Strconv.Itoa3
import Derived.Shelf.Strings.Search1
import Derived.Shelf.Strings.Search2
import Derived.Shelf.Strings.Search3
import Derived.Shelf.Strings.Count
import Derived.Shelf.Strings.Shaped
import Derived.Shelf.Strings.Split
import Derived.Shelf.Strings.SplitShaped
import Derived.Shelf.Unicode.Decode
import Derived.Shelf.Strings.RuneCount
import Derived.Shelf.Strings.Explode
import Derived.Shelf.Unicode.DecodeSlow
import Derived.Test.YtfgjhgecmelccaaDoorProg
import Derived.Deep.AppendSrc
import Derived.Lib.AppendStr
import Derived.Laws.BytesArg
import Derived.Lib.AppendIntMem
import Derived.Lib.ItoaLen
import Derived.Lib.TrailingZeros
import Derived.Lib.SplitLaws
import Derived.Lib.ItoaNum
import Derived.Shelf.Strings.PiecesUse
import Derived.Shelf.Spec.TrailingZeros
import Derived.RangeFuncNested
import Derived.RangeFuncBound
import Derived.RangeFuncCalls
import Derived.RangeFuncLeaves
import Derived.Shelf.Abstract
import Derived.Shelf.RegionOpen
import Derived.OwnWalkIn
import Derived.TacticsInMore
import Derived.LoopNIn
import Derived.LoopIn
import Derived.Test.YtfgjhgecmelccaaDoorTie
import Derived.Lib.LaidTab
import Derived.LaidMore
import Derived.Lay
import Derived.Stop.LaidErr
import Derived.SevenTiedAt
import Derived.Test.YtfgjhgecmelccaaDoorCards
import Derived.Deep.CutBlock
import Derived.Deep.DeepCutAuto
import Derived.Laws.Tables
import Derived.Laws.Rows
import Derived.Laws.CopyOwn
import Derived.Outline
import Derived.IntWalk
import Derived.Lib.EndianBits
import Derived.StillTail
import Derived.Laws.IdiomStrings
import Derived.ChangeKeysEq
import Derived.Laws.StructEq
namespace Go.Proofs.YtfgjhgecmelccaaDoor
open Go.RowKit Go.Shelf Go.Maps

/-! The table of math/bits. -/
def Tab (w : World) : Prop := TabAt 1 Lib.deBruijn32tab w
theorem Tab.lt {w : World} (h : Tab w) : 1 < w.heap.size := World.block_lt_of_cell? w _ (h 0 (by decide))
theorem Tab.below {w w' : World} (h : Tab w) (hb : Below w.heap.size w w') : Tab w' := fun j hj => (hb.cell (p := ⟨_, j, none⟩) h.lt).trans (h j hj)
theorem Tab.kept {p : Option Nat} {w w' : World} (h : Tab w) (hb : Kept p w.heap.size w w') (hp : p ≠ some 1) : Tab w' := fun j hj => (hb.cell (q := ⟨_, j, none⟩) h.lt hp).trans (h j hj)

/-! The fields of a mask below 256, rising. -/
/-! slices.AppendSeq's loop: what lies between two rounds. -/
theorem setCell_grown (W : World) (b : Nat) (v : Value) : W.grownBy (W.setCell ⟨b, 0, none⟩ v) (some b) := ⟨rfl, rfl, rfl, by simp [World.setCell], fun k _ hk => Below.heap_setCell _ _ _ k (fun e => hk (by rw [e]))⟩
theorem own_other {W : World} {base : Nat} {e : TypeId} {size : Nat} {v : Value} {k : Nat} {xs : List Value} (h : W.ownsRow base e size v k xs) {j : Nat} {o : Obj} (hj : W.heap[j]? = some o) (hno : ∀ cur, o ≠ .cells cur e (0, 0)) :
    v.ownBlock = none ∨ v.ownBlock ≠ some j := by
  rcases h.2 with ⟨rfl, _⟩ | ⟨g, cap, cur, rfl, _, hgb, _⟩
  · exact .inl rfl
  · refine .inr fun e' => ?_
    have : g = j := by simpa [Value.ownBlock] using e'
    subst this; rw [hgb] at hj; cases hj; exact hno cur rfl
theorem box_set {W : World} {B : Nat} {v : Value} {t : TypeId} (v' : Value) (h : W.heap[B]? = some (.cells #[v] t (0, 0))) : (W.setCell ⟨B, 0, none⟩ v').heap[B]? = some (.cells #[v'] t (0, 0)) := by
  obtain ⟨hlt, hk⟩ := Array.getElem?_eq_some_iff.1 h
  show (W.heap.modify B _)[B]? = _
  rw [Array.getElem?_eq_getElem (by rw [Array.size_modify]; exact hlt), Array.getElem_modify_self, hk]
  rfl
theorem Kept.grown {q : Option Nat} {B : Nat} {a w w' : World} {row : Option Nat} (h : Kept q B a w) (hg : w.grownBy w' row) (hr : ∀ k, row = some k → B ≤ k ∨ q = some k) (hB : B ≤ w.heap.size) : Kept q B a w' :=
  ⟨hg.os.trans h.os, hg.tape.trans h.tape, hg.output.trans h.output, Nat.le_trans h.size hg.size, fun k hk hp => (hg.block k (by omega) (fun e => by
    rcases hr k e.symm with h1 | h1
    · omega
    · exact hp h1)).trans (h.block k hk hp)⟩
def coAssign : Code := (Code.region 2 #[{ dst := some 5, op := Op.assign (Operand.tmp 7), type := 3, pos := "iter.go:51", after := #[], guard := none }] false)
def coBody : Code := (Code.block 1 (Code.region 3 #[{ dst := some 8, op := Op.load 32 (Operand.tmp 2), type := 32, pos := "iter.go:52", after := #[], guard := none }, { dst := some 9, op := Op.move (Operand.tmp 5), type := 3, pos := "iter.go:52", after := #[], guard := none }, { dst := some 10, op := Op.buildSlice 32 1 #[(0, Operand.tmp 9)], type := 32, pos := "iter.go:52", after := #[{ on := 1, ground := Ground.data }], guard := none }, { dst := some 11, op := Op.call { callee := Callee.builtin Builtin.append, args := #[Operand.tmp 8, Operand.tmp 10], argTypes := #[32, 32] }, type := 32, pos := "iter.go:52", after := #[{ on := 0, ground := Ground.data }, { on := 2, ground := Ground.data }], guard := none }, { dst := none, op := Op.store 32 (Operand.tmp 2) (Operand.tmp 11), type := 0, pos := "iter.go:52", after := #[{ on := 3, ground := Ground.data }, { on := 3, ground := Ground.chain }, { on := 0, ground := Ground.phase }, { on := 1, ground := Ground.phase }, { on := 2, ground := Ground.phase }, { on := 3, ground := Ground.phase }], guard := none }] false))
def coRec (fn : FuncId) (sv : Value) (Bs D : Nat) (st : LoopState) (pend : Option Code) : Loop :=
  { state := st, pending := pend, fn, tmps := #[.slice none 0 0, sv, .pointer (some ⟨Bs, 0, none⟩), undef, .slice none 0 0, undef, sv, undef, undef, undef, undef, undef, undef], params := #[7], assign := coAssign, body := coBody, defers := D }
/-- The box holds what has come; the captured variable holds s. -/
structure CoAt (w0 : World) (fn : FuncId) (sv : Value) (Bs l D q : Nat) (s : Nat) (ss : List Int) (W : World) : Prop where
  box : ∃ v, W.heap[Bs]? = some (.cells #[v] 32 (0, 0)) ∧ W.ownsRow w0.heap.size 3 1 v ss.length (ss.flatMap ic)
  L : W.heap[l]? = some (.loop (coRec fn sv Bs D .ready none))
  K : W.heap[D]? = some (.deferred (some []))
  Q : W.heap[q]? = some (.cells #[.int .u32 s] 23 (0, 0))
  kept : Kept (some q) w0.heap.size w0 W
theorem CoAt.store {w0 : World} {fn : FuncId} {sv : Value} {Bs l D q s s' : Nat} {ss : List Int} {W : World} (h : CoAt w0 fn sv Bs l D q s ss W) (h1 : Bs ≠ q) (h2 : l ≠ q) (h3 : D ≠ q) :
    CoAt w0 fn sv Bs l D q s' ss (W.setCell ⟨q, 0, none⟩ (.int .u32 s')) := by
  obtain ⟨⟨v, hv, hrow⟩, hL, hK, hQ, hk⟩ := h
  have ho : ∀ k, k ≠ q → (W.setCell ⟨q, 0, none⟩ (.int .u32 s')).heap[k]? = W.heap[k]? := fun k hk => Below.heap_setCell _ _ _ k hk
  exact ⟨⟨v, (ho _ h1).trans hv, hrow.kept (setCell_grown _ _ _) (own_other hrow hQ (fun cur e => by cases e))⟩, (ho _ h2).trans hL, (ho _ h3).trans hK, box_set _ hQ, hk.setCell (.inr rfl) _⟩

end Go.Proofs.YtfgjhgecmelccaaDoor
namespace Go.Proofs.YtfgjhgecmelccaaDoor
open Go.ChangeShapes Go.WideShapes Go.ChangeAt Go.RowKit

abbrev laidQ : List (String × DataW Unit) := [("math/bits.deBruijn32tab", Rows.laid_math_bits_deBruijn32tab), ("math/bits.deBruijn64tab", Rows.laid_math_bits_deBruijn64tab), ("internal/strconv.uint64pow10", Rows.laid_internal_strconv_uint64pow10), ("unicode/utf8.acceptRanges", Rows.laid_unicode_utf8_acceptRanges), ("unicode/utf8.first", Rows.laid_unicode_utf8_first)]
theorem q_pow : Tryd.prog.globalNamed "internal/strconv.uint64pow10" = some 4 := by kernel_rfl
theorem q_tpow : (Tryd.prog.globals[4]?).map (·.type) = some 266 := by kernel_rfl
theorem q_cpow : Tryd.prog.cellsOf 266 = 20 := by kernel_rfl
theorem q_cu64 : Tryd.prog.cellsOf 253 = 1 := by kernel_rfl
theorem q_tab : Tryd.prog.globalNamed "math/bits.deBruijn32tab" = some 1 := by kernel_rfl
theorem q_ttab : (Tryd.prog.globals[1]?).map (·.type) = some 258 := by kernel_rfl
theorem q_ctab : Tryd.prog.cellsOf 258 = 32 := by kernel_rfl
theorem q_cu8 : Tryd.prog.cellsOf 5 = 1 := by kernel_rfl
theorem powQ_of_laid {W : World} (h : laidMetH Tryd.prog laidQ W) : PowTab W := by
  rw [MakeChecks.laidMetH_plain _ _ _ (by kernel_rfl)] at h
  exact PowTab.of (Lib.tabIs_of_head (zs := Lib.pow10Tab) q_pow q_tpow Tryd.underlying266 Tryd.underlying253 q_cu64 q_cpow h.tail.tail)
theorem tabQ_of_laid {W : World} (h : laidMetH Tryd.prog laidQ W) : Tab W := by
  rw [MakeChecks.laidMetH_plain _ _ _ (by kernel_rfl)] at h
  have hT := Lib.tabIs_of_head (zs := Lib.deBruijn32tab.map Int.ofNat) q_tab q_ttab Tryd.underlying258 Tryd.underlying5 q_cu8 q_ctab h
  intro j hj
  rw [hT.cell q_tab j (by rw [List.length_map]; exact hj)]
  simp [List.getD, hj]
theorem laidQ_met (os : Os) (args : Array Value) : laidMetH Tryd.prog laidQ ((World.laidAll Tryd.prog os laidQ).forCall (fun _ _ => 0) ⟨#[], args, []⟩).memory := by
  rw [MakeChecks.laidMetH_plain _ _ _ (by kernel_rfl)]
  exact laidMet_laidAll _ (by kernel_rfl) (by kernel_rfl)
end Go.Proofs.YtfgjhgecmelccaaDoor
namespace Go.Proofs.YtfgjhgecmelccaaDoor
open Go.ChangeShapes Go.WideShapes Go.ChangeAt Go.RowKit Go.Deep
open Go.ChangeMaps (open_string shut_string)

theorem c_int : Tryd.prog.cellsOf 3 = 1 := by kernel_rfl
end Go.Proofs.YtfgjhgecmelccaaDoor
namespace Go.Proofs.YtfgjhgecmelccaaDoor
open Go.RowKit

theorem elemB : Elem Tryd.prog 50 5 1 1 := Elem.mk' Tryd.underlying50 (z := .int .u8 0) (by kernel_rfl) rfl (by omega) (by omega)

theorem or128 (v : Nat) : bits .or .u8 ((v : Int) % 256) 128 = ((v % 128 + 128 : Nat) : Int) := by
  have h1 := u8_or_nat (v % 256) 128 (Nat.mod_lt _ (by omega)) (by omega)
  have h2 : ∀ a : Fin 256, (a.val ||| 128) = a.val % 128 + 128 := by decide +kernel
  have h3 := h2 ⟨v % 256, Nat.mod_lt _ (by omega)⟩
  simp only at h3
  rw [h3] at h1
  have e : ((v : Int) % 256) = ((v % 256 : Nat) : Int) := by omega
  rw [e]
  refine Eq.trans h1 ?_
  omega

set_option maxHeartbeats 400000 in
set_option maxRecDepth 4000 in
theorem c_octet_Num (l : List UInt8) (A : Option Addr) (c : Nat) (n : Int) (w : World) (h : InB w A c l) :
    Calls Tryd.prog 67 #[.slice A l.length c, .int .i64 n] w (RetS 1 bc 5 w (l ++ num n)) := by
  have hL := h.1
  have hC := h.2.1
  have hS := h.2.2.1
  have EB := elemB
  have H0 : Held w w.heap.size 5 1 (.slice A l.length l.length) l.length (l.flatMap bc) := Held.of_in bc_len (by omega) h
  go_enter Tryd.func67, Tryd.ntmps67
  have Hnum : Hid (l ++ numF 6 (clampN n) = l ++ num n) := by show _ = _; rw [num_def]
  have hlt0 := clampN_lt n
  have hle0 := clampN_le n
  have hci := clampN_int n
  go_wp2_with (fail)
  go_loopw [0, 5] (fun b v wr => ∃ (f vn : Nat) (acc : List UInt8), vn ≤ 1099511627776 ∧ Hid (vn < 128 ^ (f + 1)) ∧ acc.length + f ≤ l.length + 6 ∧ v = .int .i64 vn ∧ Hid (Held wr w.heap.size 5 1 b acc.length (acc.flatMap bc)) ∧ Hid (acc ++ numF f vn = l ++ num n) ∧ Below w.heap.size w wr)
    (fun _ v _ => (intOf v).toNat)
  case atStart => exact ⟨6, clampN n, l, hle0, hlt0, by omega, by rw [hci], H0, Hnum, (by repeat (first | exact Below.refl _ _ | refine Below.drew ?_ | refine Below.alloc ?_ (by first | omega | (simp; done) | (simp; omega)) _ | refine Below.setCell ?_ (by first | omega | (simp; done) | (simp; omega)) _ | refine Below.trans ?_ (Below.mono (by assumption) (by first | omega | (simp; done) | (simp; omega)))))⟩
  case round =>
    obtain ⟨f, vn, acc, hle, hlt, hlen, rfl, H, HN, hbl⟩ := hrel
    have hbz := hbl.size
    obtain ⟨A1, c1, rfl⟩ := H.out.shape
    by_cases hv : vn < 128
    · have HN' : acc ++ [UInt8.ofNat vn] = l ++ num n := by rw [← numF_lt hv]; exact HN.out
      have HF := Lib.hid HN'
      clear HN HN' Hnum hlt hlt0 hci h
      go_wp2_with ((at_builtin; refine Stop.out ?_))
      refine Stop.mk (wpList_appH _ rfl (.tmp 25) (.tmp 28) EB rfl w.heap.size (.slice A1 acc.length c1) acc.length (acc.flatMap bc) rfl (H.out.below ((Below.refl _ _).alloc (Nat.le_refl _) _)) _ 1 1 [.int .u8 vn] rfl (Src.new _ _ _ _ rfl) (by simp [Value.oneCell']) (by omega) (by omega) ?_ ?_)
      · simp only [World.size_alloc]; omega
      intro v2 w2 own2 hb2
      have hfin : Hid (acc.flatMap bc ++ [Value.int .u8 vn] = (l ++ num n).flatMap bc ∧ acc.length + 1 = (l ++ num n).length) := by
        show _ ∧ _
        rw [← HF.out]
        refine ⟨?_, by simp⟩
        rw [List.flatMap_append]
        simp [bc]; omega
      obtain ⟨e1, e2⟩ := hfin.out
      rw [e1, e2] at own2
      have O2 := Lib.hid own2
      clear own2 e1 e2
      go_wp2_with (fail)
      go_ret
      exact ⟨_, rfl, O2.out, Below.trans (b := wr) hbl (Below.trans (b := wr.alloc (.cells #[.int .u8 vn] 5)) (by repeat (first | exact Below.refl _ _ | refine Below.drew ?_ | refine Below.alloc ?_ (by first | omega | (simp; done) | (simp; omega)) _ | refine Below.setCell ?_ (by first | omega | (simp; done) | (simp; omega)) _ | refine Below.trans ?_ (Below.mono (by assumption) (by first | omega | (simp; done) | (simp; omega))))) hb2)⟩
    · obtain ⟨f', rfl⟩ : ∃ f', f = f' + 1 := by
        cases f with
        | zero => exact absurd hlt.out (by omega)
        | succ f => exact ⟨f, rfl⟩
      have hlt2 : Hid (vn / 128 < 128 ^ (f' + 1)) := Nat.div_lt_of_lt_mul (by have := hlt.out; rw [Nat.pow_succ 128 (f' + 1), Nat.mul_comm] at this; exact this)
      have hn2 := HN.out
      rw [numF_ge hv] at hn2
      have HN2 := Lib.hid hn2
      clear HN hn2 hlt hlt0 hci h Hnum
      have hor := or128 vn
      go_wp2_with ((at_builtin; refine Stop.out ?_))
      refine Stop.mk (wpList_appH _ rfl (.tmp 17) (.tmp 21) EB rfl w.heap.size (.slice A1 acc.length c1) acc.length (acc.flatMap bc) rfl (H.out.below ((Below.refl _ _).alloc (Nat.le_refl _) _)) _ 1 1 [.int .u8 ((vn % 128 + 128 : Nat) : Int)] rfl (Src.new _ _ _ _ rfl) (by simp [Value.oneCell']) (by omega) (by omega) ?_ ?_)
      · simp only [World.size_alloc]; omega
      intro v2 w2 own2 hb2
      have hfin : Hid (acc.flatMap bc ++ [Value.int .u8 ((vn % 128 + 128 : Nat) : Int)] = (acc ++ [UInt8.ofNat (vn % 128 + 128)]).flatMap bc ∧ acc.length + 1 = (acc ++ [UInt8.ofNat (vn % 128 + 128)]).length) := by
        show _ ∧ _
        refine ⟨?_, by simp⟩
        rw [List.flatMap_append]
        simp [bc]; omega
      obtain ⟨e1, e2⟩ := hfin.out
      rw [e1, e2] at own2
      have O2 := Lib.hid own2
      have hb3 : Below w.heap.size w w2 := Below.trans (b := wr) hbl (Below.trans (b := wr.alloc (.cells #[.int .u8 ((vn % 128 + 128 : Nat) : Int)] 5)) (by repeat (first | exact Below.refl _ _ | refine Below.drew ?_ | refine Below.alloc ?_ (by first | omega | (simp; done) | (simp; omega)) _ | refine Below.setCell ?_ (by first | omega | (simp; done) | (simp; omega)) _ | refine Below.trans ?_ (Below.mono (by assumption) (by first | omega | (simp; done) | (simp; omega))))) hb2)
      clear own2 e1 e2
      go_wp2_with (fail)
      go_roundw
      case rel =>
        refine ⟨f', vn / 128, acc ++ [UInt8.ofNat (vn % 128 + 128)], by omega, hlt2, by simp; omega, by go_num, .inl O2.out, ?_, hb3⟩
        show _ = _
        rw [← HN2.out]; simp
      case measure => simp [intOf]; omega
set_option maxHeartbeats 400000 in
set_option maxRecDepth 4000 in
theorem c_ref01_Num (n : Int) (w : World) : Calls Tryd.prog 69 #[.int .i64 n] w (RetV w (.string (str (num n)))) := by
  have Hnum : Hid (([] : List UInt8) ++ numF 6 (clampN n) = num n) := by show _ = _; rw [num_def]; rfl
  have hlt0 := clampN_lt n
  have hle0 := clampN_le n
  have hci := clampN_int n
  have kc := fun (w : World) (x : Int) => conv_one (P := Tryd.prog) w (src := 50) (dst := 9) (e := 5) Tryd.underlying50 Tryd.underlying5 Tryd.underlying9 x
  go_enter Tryd.func69, Tryd.ntmps69
  go_wp2_with (fail)
  go_loopw [3, 4] (fun v s wr => ∃ (f vn : Nat) (acc : List UInt8), vn ≤ 1099511627776 ∧ Hid (vn < 128 ^ (f + 1)) ∧ acc.length + f ≤ 6 ∧ v = .int .i64 vn ∧ s = .string (str acc) ∧ Hid (acc ++ numF f vn = num n) ∧ Below w.heap.size w wr)
    (fun v _ _ => (intOf v).toNat)
  case atStart => exact ⟨6, clampN n, [], hle0, hlt0, by simp, by rw [hci], rfl, Hnum, (by repeat (first | exact Below.refl _ _ | refine Below.drew ?_ | refine Below.alloc ?_ (by first | omega | (simp; done) | (simp; omega)) _ | refine Below.setCell ?_ (by first | omega | (simp; done) | (simp; omega)) _ | refine Below.trans ?_ (Below.mono (by assumption) (by first | omega | (simp; done) | (simp; omega)))))⟩
  case round =>
    obtain ⟨f, vn, acc, hle, hlt, hlen, rfl, rfl, HN, hbl⟩ := hrel
    have hbz := hbl.size
    by_cases hv : vn < 128
    · have HN' : acc ++ [UInt8.ofNat vn] = num n := by rw [← numF_lt hv]; exact HN.out
      have HF := Lib.hid HN'
      clear HN HN' Hnum hlt hlt0 hci
      go_wp2_with (fail)
      go_ret
      exact RetV.str HF.out (by repeat (first | exact Below.refl _ _ | refine Below.drew ?_ | refine Below.alloc ?_ (by first | omega | (simp; done) | (simp; omega)) _ | refine Below.setCell ?_ (by first | omega | (simp; done) | (simp; omega)) _ | refine Below.trans ?_ (Below.mono (by assumption) (by first | omega | (simp; done) | (simp; omega)))))
    · obtain ⟨f', rfl⟩ : ∃ f', f = f' + 1 := by
        cases f with
        | zero => exact absurd hlt.out (by omega)
        | succ f => exact ⟨f, rfl⟩
      have hlt2 : Hid (vn / 128 < 128 ^ (f' + 1)) := Nat.div_lt_of_lt_mul (by have := hlt.out; rw [Nat.pow_succ 128 (f' + 1), Nat.mul_comm] at this; exact this)
      have hn2 := HN.out
      rw [numF_ge hv] at hn2
      have HN2 := Lib.hid hn2
      clear HN hn2 hlt hlt0 hci Hnum
      go_wp2_with (fail)
      go_roundw
      case rel =>
        refine ⟨f', vn / 128, acc ++ [UInt8.ofNat (vn % 128 + 128)], by omega, hlt2, by simp; omega, by go_num, ?_, ?_, (by repeat (first | exact Below.refl _ _ | refine Below.drew ?_ | refine Below.alloc ?_ (by first | omega | (simp; done) | (simp; omega)) _ | refine Below.setCell ?_ (by first | omega | (simp; done) | (simp; omega)) _ | refine Below.trans ?_ (Below.mono (by assumption) (by first | omega | (simp; done) | (simp; omega)))))⟩
        · rw [UInt8.ofNat_add]; rfl
        · show _ = _
          rw [← HN2.out]; simp
      case measure => simp [intOf]; omega
set_option maxHeartbeats 400000 in
set_option maxRecDepth 4000 in
theorem c_Clone_b (l : List UInt8) (A : Option Addr) (c : Nat) (w : World) (h : In 1 bc w A c l) :
    Calls Tryd.prog 90 #[.slice A l.length c] w (RetS 1 bc 5 w l) := by
  have hL := h.1
  have hC := h.2.1
  have hS := h.2.2.1
  have EB := elemB
  rcases A with _ | ad
  · have hl : l = [] := by
      rcases h.2.2.2 with h | ⟨b, off, hh, _⟩
      · exact h
      · cases hh
    subst hl
    clear h
    have ke := fun (w : World) (n c : Nat) => Lib.run_eql_slice_nil (P := Tryd.prog) w 50 _ none n c 0 0 Tryd.underlying50
    go_enter Tryd.func90, Tryd.ntmps90
    go_wp2_with (fail)
    go_ret
    exact ⟨_, rfl, World.ownsRow_nil _ _ _ _, Below.refl _ _⟩
  · have ke := fun (w : World) (n c : Nat) => Lib.run_eql_slice_nil (P := Tryd.prog) w 50 _ (some ad) n c 0 0 Tryd.underlying50
    go_enter Tryd.func90, Tryd.ntmps90
    go_wp2_with ((at_builtin; refine Stop.out ?_))
    refine Stop.mk (wpList_app _ rfl (.tmp 5) (.tmp 6) EB rfl w.heap.size (.slice (some ⟨w.heap.size, 0, none⟩) 0 0) 0 [] rfl (World.ownsRow_lit w #[] 0 (Nat.le_refl _) (by unfold maxLen; omega) (by simp)) (some ad) l.length c (l.flatMap bc) rfl (Src.of_in bc_len (by omega) (h.alloc _)) (bc_one _) (by omega) ?_ ?_)
    · simp only [World.size_alloc]; omega
    intro v2 w2 own2 _ hb2 _
    rw [Nat.zero_add, List.nil_append] at own2
    have hb3 : Below w.heap.size w w2 := Below.trans (b := w.alloc (.cells #[] 5)) (by repeat (first | exact Below.refl _ _ | refine Below.drew ?_ | refine Below.alloc ?_ (by first | omega | (simp; done) | (simp; omega)) _ | refine Below.setCell ?_ (by first | omega | (simp; done) | (simp; omega)) _ | refine Below.trans ?_ (Below.mono (by assumption) (by first | omega | (simp; done) | (simp; omega))))) hb2
    go_wp2_with (fail)
    go_ret
    exact ⟨_, rfl, own2, hb3⟩
end Go.Proofs.YtfgjhgecmelccaaDoor
namespace Go.Proofs.YtfgjhgecmelccaaDoor
open Go.RowKit

/-! A number that is not 0. -/
def rdAb' (st : Rd) (most : Int) : Rd := if rdN st most = 0 then rdF (rdN' st most) 3 else rdN' st most
end Go.Proofs.YtfgjhgecmelccaaDoor
namespace Go.Proofs.YtfgjhgecmelccaaDoor
open Go.RowKit

structure Tok where
  dev : Int
  epoch : Int
  seq : Int
  cursor : Int
deriving DecidableEq
abbrev tz : Tok := ⟨0, 0, 0, 0⟩
abbrev Tok.arr (t : Tok) : Array Value := #[.int .i64 t.dev, .int .i64 t.epoch, .int .i64 t.seq, .int .i64 t.cursor]
def Tok.ok (t : Tok) : Bool := decide (0 ≤ t.dev ∧ t.dev ≤ 5 ∧ 1 ≤ t.epoch ∧ t.epoch ≤ 1099511627776 ∧ 0 ≤ t.seq ∧ t.seq ≤ 1099511627776 ∧ 0 ≤ t.cursor ∧ t.cursor ≤ 1073741824)
theorem Tok.ok_iff {t : Tok} : t.ok = true ↔ (0 ≤ t.dev ∧ t.dev ≤ 5 ∧ 1 ≤ t.epoch ∧ t.epoch ≤ 1099511627776 ∧ 0 ≤ t.seq ∧ t.seq ≤ 1099511627776 ∧ 0 ≤ t.cursor ∧ t.cursor ≤ 1073741824) := by unfold Tok.ok; exact decide_eq_true_iff
def tokB (t : Tok) : List UInt8 := if t.ok then num t.dev ++ num t.epoch ++ num t.seq ++ num t.cursor else []
theorem tokB_ok {t : Tok} (h : t.ok = true) : tokB t = num t.dev ++ num t.epoch ++ num t.seq ++ num t.cursor := by unfold tokB; rw [if_pos h]
theorem tokB_bad {t : Tok} (h : t.ok = false) : tokB t = [] := by unfold tokB; rw [h]; rfl
def tkA (st : Rd) : Rd := rdN' st 5
def tkB (st : Rd) : Rd := rdAb' (tkA st) 1099511627776
def tkC (st : Rd) : Rd := rdN' (tkB st) 1099511627776
@[irreducible] def rdTok' (st : Rd) : Rd := rdN' (tkC st) 1073741824
def tkTok (st : Rd) : Tok := ⟨rdN st 5, rdN (tkA st) 1099511627776, rdN (tkB st) 1099511627776, rdN (tkC st) 1073741824⟩
@[irreducible] def rdTok (st : Rd) : Tok := if (rdTok' st).e = 0 then tkTok st else tz
end Go.Proofs.YtfgjhgecmelccaaDoor
namespace Go.Proofs.YtfgjhgecmelccaaDoor
open Go.ChangeShapes Go.WideShapes Go.ChangeAt Go.RowKit Go.Deep
open Go.ChangeMaps (open_string shut_string)

theorem list4 {α : Type} {l : List α} (h : l.length = 4) : ∃ a b c d, l = [a, b, c, d] := by
  match l, h with
  | [a, b, c, d], _ => exact ⟨a, b, c, d, rfl⟩
section
variable {H : Type} {enc : TypeId × Value → H} {w : World} {base : Nat} {spare : Nat → Bool} {held : Bool}
theorem c_token : Tryd.prog.cellsOf 72 = 4 := by kernel_rfl
theorem open_token {fuel : Nat} {cs : List Value} {x : DataW H × List MemPlace} (h : DataW.trod enc Tryd.prog w 0 spare held fuel 72 cs = some x) :
    ∃ a : Tok, cs = a.arr.toList := by
  obtain ⟨xs, n, _, _, hl, hxl, hf⟩ := DataW.trod_struct Tryd.underlying72 h
  rw [c_token] at hl
  obtain ⟨q0, q1, q2, q3, rfl⟩ := list4 hl
  obtain ⟨x0, x1, x2, x3, rfl⟩ := list4 (show xs.length = 4 from hxl)
  have h0 := hf 0
  have h1 := hf 1
  have h2 := hf 2
  have h3 := hf 3
  simp [c_int] at h0 h1 h2 h3
  obtain ⟨a0, e0, -, -⟩ := DataW.trod_int Tryd.underlying3 h0
  obtain ⟨a1, e1, -, -⟩ := DataW.trod_int Tryd.underlying3 h1
  obtain ⟨a2, e2, -, -⟩ := DataW.trod_int Tryd.underlying3 h2
  obtain ⟨a3, e3, -, -⟩ := DataW.trod_int Tryd.underlying3 h3
  simp at e0 e1 e2 e3
  subst e0 e1 e2 e3
  exact ⟨⟨a0, a1, a2, a3⟩, rfl⟩
end
end Go.Proofs.YtfgjhgecmelccaaDoor
namespace Go.Proofs.YtfgjhgecmelccaaDoor
open Go.RowKit

/-- The type ty is a struct or an array of n cells. -/
structure Str (P : Program) (ty : TypeId) (n : Nat) : Prop where
  desc : ∃ d, P.underlying ty = some d ∧ (match d with | .struct _ | .array _ _ => true | _ => false) = true
  size : (P.info? ty).map (·.size) = some n
section
variable {P : Program} {w : World}
theorem Kept.one {g : Nat} {w' : World} (h : Kept (some g) w.heap.size w w') {p : Option Nat} {B : Nat} (hB : B ≤ w.heap.size) (hg : B ≤ g ∨ p = some g) : Kept p B w w' :=
  ⟨h.os, h.tape, h.output, h.size, fun k hk hp => h.block k (by omega) (fun e => by
    injection e with e; subst e
    rcases hg with hg | hg
    · omega
    · exact hp hg)⟩
theorem Kept.oneB {g B : Nat} {w' : World} (h : Kept (some g) w.heap.size w w') (hB : B ≤ w.heap.size) (hg : B ≤ g) : Below B w w' := h.below hB (fun k hk => by injection hk with hk; omega)
theorem wpList_loadB {ops : Array Oper} {rest : List Oper} {o : Oper} {a : Act} {Q : Exit → Act → World → Prop} (hgd : o.guard = none) (ty : TypeId) (x : Operand) (ho : o.op = .load ty x)
    (g : Nat) (hx : a.eval x = .pointer (some ⟨g, 0, none⟩)) (cs : Array Value) (hb : Blk w g cs) {n : Nat} (S : Str P ty n) (hn : cs.size = n)
    (h : wpList P ops Q rest (a.put o.dst (.agg cs)) w) : wpList P ops Q (o :: rest) a w := by
  obtain ⟨d, h1, h2⟩ := S.desc
  obtain ⟨t, hb⟩ := hb
  exact wpList_load_row hgd ty x ho g hx t cs (0, 0) d hb h1 (by cases d <;> first | rfl | (simp at h2)) (by rw [S.size, hn]) h
theorem Blk.row {g : Nat} {cs : Array Value} (hb : Blk w g cs) (cells : Array Value) : Blk (w.setRow g cells) g cells ∧ Kept (some g) w.heap.size w (w.setRow g cells) := by
  have hlt := hb.lt
  obtain ⟨t, hb⟩ := hb
  exact ⟨⟨t, setRow_heap w g _ _ t _ hb⟩, ⟨rfl, rfl, rfl, by simp [World.setRow], fun k hk hp => setRow_other w g k _ (fun e => hp (by rw [e]))⟩⟩
theorem wpList_storeB {ops : Array Oper} {rest : List Oper} {o : Oper} {a : Act} {Q : Exit → Act → World → Prop} (hgd : o.guard = none) (ty : TypeId) (x y : Operand) (ho : o.op = .store ty x y)
    (g : Nat) (cells : Array Value) (hx : a.eval x = .pointer (some ⟨g, 0, none⟩)) (hy : a.eval y = .agg cells) (old : Array Value) (hb : Blk w g old) {n : Nat} (S : Str P ty n) (hn : cells.size = n)
    (hold : old.size = cells.size) (h1 : cells.all (·.oneCell') = true)
    (h : ∀ w', Blk w' g cells → Kept (some g) w.heap.size w w' → wpList P ops Q rest (a.put o.dst undef) w') : wpList P ops Q (o :: rest) a w := by
  obtain ⟨k1, k2⟩ := hb.row cells
  obtain ⟨t, hb⟩ := hb
  exact wpList_store_row hgd ty x y ho g cells hx hy t old hb (by rw [S.size, hn]) hold h1 (h _ k1 k2)
/-- The walk stands still at a read, at a store of a value of type ty. -/
theorem stop_load {ops : Array Oper} {rest : List Oper} {o : Oper} {a : Act} {Q : Exit → Act → World → Prop} (ty : TypeId) (x : Operand) (_ : o.guard = none) (_ : o.op = .load ty x) (h : Stop (wpList P ops Q (o :: rest) a w)) : wpList P ops Q (o :: rest) a w := h
theorem stop_store {ops : Array Oper} {rest : List Oper} {o : Oper} {a : Act} {Q : Exit → Act → World → Prop} (ty : TypeId) (x y : Operand) (_ : o.guard = none) (_ : o.op = .store ty x y) (h : Stop (wpList P ops Q (o :: rest) a w)) : wpList P ops Q (o :: rest) a w := h
theorem results_B {fn : Func} {p : Tmp} {ty : TypeId} (h : fn.results = #[.cell p ty]) {tmps : Array Value} {g : Nat} {cs : Array Value} (hp : tmps.getD p undef = .pointer (some ⟨g, 0, none⟩)) (hb : Blk w g cs) {n : Nat} (S : Str P ty n) (hn : cs.size = n) :
    (results fn tmps).run P w = .ok (.agg cs) w := by
  obtain ⟨d, h1, h2⟩ := S.desc
  obtain ⟨t, hb⟩ := hb
  exact results_cell_row h tmps w g t cs (0, 0) d hp hb h1 (by cases d <;> first | rfl | (simp at h2)) (by rw [S.size, hn])
end
end Go.Proofs.YtfgjhgecmelccaaDoor
namespace Go.Proofs.YtfgjhgecmelccaaDoor
open Go.RowKit

/-- A world behind the making of one block, in which that block is as it was made. -/
def At (w w' : World) (cs : Array Value) : Prop := Below w.heap.size w w' ∧ Blk w' w.heap.size cs
theorem At.new (w : World) (t : TypeId) (cs : Array Value) : At w (w.alloc (.cells cs t)) cs := ⟨(Below.refl _ _).alloc (Nat.le_refl _) _, Blk.new _ _ _⟩
theorem At.step {w w1 w2 : World} {cs : Array Value} (h : At w w1 cs) (hb : Below w1.heap.size w1 w2) : At w w2 cs := ⟨h.1.trans (hb.mono h.1.size), h.2.below hb h.2.lt⟩
theorem At.alloc {w w1 : World} {cs : Array Value} (h : At w w1 cs) (o : Obj) : At w (w1.alloc o) cs := h.step ((Below.refl _ _).alloc (Nat.le_refl _) o)
end Go.Proofs.YtfgjhgecmelccaaDoor
namespace Go.Proofs.YtfgjhgecmelccaaDoor
open Go.RowKit

/-- A world behind the making of two blocks, in which they are as they were made. -/
def At2 (w w' : World) (cs ds : Array Value) : Prop := Below w.heap.size w w' ∧ Blk w' w.heap.size cs ∧ Blk w' (w.heap.size + 1) ds
theorem At2.new (w : World) (s t : TypeId) (cs ds : Array Value) : At2 w ((w.alloc (.cells cs s)).alloc (.cells ds t)) cs ds := by
  have h := (At.new w s cs).alloc (.cells ds t)
  refine ⟨h.1, h.2, ?_⟩
  have := Blk.new (w.alloc (.cells cs s)) t ds
  simpa using this
theorem At2.step {w w1 w2 : World} {cs ds : Array Value} (h : At2 w w1 cs ds) (hb : Below w1.heap.size w1 w2) : At2 w w2 cs ds := ⟨h.1.trans (hb.mono h.1.size), h.2.1.below hb h.2.1.lt, h.2.2.below hb h.2.2.lt⟩
end Go.Proofs.YtfgjhgecmelccaaDoor
