/-
  Lemmas (walks and plain laws), in one text.
-/
import Derived.Test.YtfgjhgecmelccaaDoorTt11
import Derived.Test.YtfgjhgecmelccaaDoorRows
import Derived.WalkKit
import Derived.WalkSpells
import Derived.WalkLawsBesides
import Derived.Lib.Hide
import Derived.Deep.QuietTactic
import Derived.BigQuiet
import Derived.Maps.AppendAt
import Derived.WalkSmall
import Derived.ProofKit
import Derived.OpenShut
import Derived.JoinedCond
import Derived.Deep.Slices
import Derived.Deep.Fields
import Derived.Carry
import Derived.HandedShaped
import Derived.Shelf.Strings.Builder1
import Derived.Shelf.Strings.Builder2
import Derived.Shelf.Strings.OnBuilder
import Derived.Shelf.Small.Wraps
import Derived.Shelf.Utf8.RuneCount
import Derived.Shelf.Strconv.Itoa0
import Derived.Shelf.Strconv.Itoa1
import Derived.Shelf.LaysM
import Derived.Shelf.Strconv.Itoa2
import Derived.Shelf.Strconv.Itoa3
import Derived.Shelf.Strings.Search1
import Derived.Shelf.Strings.Search2
import Derived.Shelf.Strings.Search3
import Derived.Shelf.Strings.Count
import Derived.Shelf.Strings.Shaped
import Derived.Shelf.Strings.Split
import Derived.Shelf.Strings.SplitShaped
import Derived.Shelf.Unicode.Decode
import Derived.Shelf.Strings.RuneCount
import Derived.Shelf.Strings.Explode
import Derived.Shelf.Unicode.DecodeSlow
import Derived.Test.YtfgjhgecmelccaaDoorProg
import Derived.Deep.AppendSrc
import Derived.Lib.AppendStr
import Derived.Laws.BytesArg
import Derived.Lib.AppendIntMem
import Derived.Lib.ItoaLen
import Derived.Lib.TrailingZeros
import Derived.Lib.SplitLaws
import Derived.Lib.ItoaNum
import Derived.Shelf.Strings.PiecesUse
import Derived.Shelf.Spec.TrailingZeros
import Derived.RangeFuncNested
import Derived.RangeFuncBound
import Derived.RangeFuncCalls
import Derived.RangeFuncLeaves
import Derived.Shelf.Abstract
import Derived.Shelf.RegionOpen
import Derived.OwnWalkIn
import Derived.TacticsInMore
import Derived.LoopNIn
import Derived.LoopIn
import Derived.Test.YtfgjhgecmelccaaDoorTie
import Derived.Lib.LaidTab
import Derived.LaidMore
import Derived.Lay
import Derived.Stop.LaidErr
import Derived.SevenTiedAt
import Derived.Test.YtfgjhgecmelccaaDoorCards
import Derived.Deep.CutBlock
import Derived.Deep.DeepCutAuto
import Derived.Laws.Tables
import Derived.Laws.Rows
import Derived.Laws.CopyOwn
import Derived.Outline
import Derived.IntWalk
import Derived.Lib.EndianBits
import Derived.StillTail
import Derived.Laws.IdiomStrings
import Derived.ChangeKeysEq
import Derived.Laws.StructEq
namespace Go.Proofs.YtfgjhgecmelccaaDoor
open Go.RowKit

section
variable {P : Program} {w : World}
theorem Str.agg {ty : TypeId} {n : Nat} (S : Str P ty n) (w : World) : (isAgg ty).run P w = .ok true w := by
  obtain ⟨d, h1, h2⟩ := S.desc
  unfold isAgg
  rw [Sem.run_bind, run_underlying h1 w]
  cases d <;> simp_all
theorem Str.sizeOf {ty : TypeId} {n : Nat} (S : Str P ty n) (w : World) : (Go.sizeOf ty).run P w = .ok n w := by
  have h := S.size
  cases hq : P.info? ty with
  | none => rw [hq] at h; cases h
  | some i =>
    rw [hq] at h
    simp at h
    simp [Go.sizeOf, typeInfo, hq, h]
theorem run_loadVar_at (g off : Nat) (cs : Array Value) (ty : TypeId) (hcell : ∀ (j : Nat) u, cs[j]? = some u → w.cell? ⟨g, off + j, none⟩ = some u) {n : Nat} (S : Str P ty n) (hn : cs.size = n) :
    (loadVar ty ⟨g, off, none⟩).run P w = .ok (.agg cs) w := by
  have hl : (loadCells ⟨g, off, none⟩ cs.toList.length).run P w = .ok cs.toList.toArray w :=
    run_loadCells_list (P := P) w ⟨g, off, none⟩ cs.toList (fun j v hv => by
      rw [add_lit']
      exact hcell j v (by simpa using hv))
  simp only [Array.length_toList, Array.toArray_toList, hn] at hl
  simp only [loadVar, Sem.run_bind, S.agg, S.sizeOf, Result.andThen_ok, if_true, hl, Sem.run_pure]
/-- A guarded operation that is wanted. -/
theorem wpList_g {ops : Array Oper} {rest : List Oper} {o : Oper} {a : Act} {Q : Exit → Act → World → Prop} (hw : Region.wanted o (yielded ops a.tmps) = true)
    (h : ∀ K : Act → World → Prop, (∀ a w, wpList P ops Q rest a w → K a w) → o.wp P a w K Q) : wpList P ops Q (o :: rest) a w := by
  rw [wpList, if_pos hw]
  exact .inl (h _ fun _ _ h => h)
theorem wpList_loadAtG {ops : Array Oper} {rest : List Oper} {o : Oper} {a : Act} {Q : Exit → Act → World → Prop} (hw : Region.wanted o (yielded ops a.tmps) = true) (ty : TypeId) (x : Operand) (ho : o.op = .load ty x)
    (g off : Nat) (hx : a.eval x = .pointer (some ⟨g, off, none⟩)) (cs : Array Value) (hcell : ∀ (j : Nat) u, cs[j]? = some u → w.cell? ⟨g, off + j, none⟩ = some u) {n : Nat} (S : Str P ty n) (hn : cs.size = n)
    (h : wpList P ops Q rest (a.put o.dst (.agg cs)) w) : wpList P ops Q (o :: rest) a w := by
  refine wpList_g hw fun K hK => ?_
  unfold Oper.wp execOp
  simp only [ho, hx, Instr.loadAt, Instr.sureAddr, Sem.run_bind, Sem.run_pure, Result.andThen_ok, run_loadVar_at g off cs ty hcell S hn]
  exact hK _ _ h
theorem stop_loadG {ops : Array Oper} {rest : List Oper} {o : Oper} {a : Act} {Q : Exit → Act → World → Prop} (ty : TypeId) (x : Operand) (_ : o.op = .load ty x) (h : Stop (wpList P ops Q (o :: rest) a w)) : wpList P ops Q (o :: rest) a w := h
theorem Blk.all {g : Nat} {cs : Array Value} (h : Blk w g cs) (j : Nat) (u : Value) (hu : cs[j]? = some u) : w.cell? ⟨g, 0 + j, none⟩ = some u := by rw [Nat.zero_add]; exact h.cell hu
end
/-! Equality. -/
def eqF (d : Nat) (xs ys : Array Value) : List (Bool × TypeId × Nat) → Sem Bool
  | [] => pure true
  | (b, t, off) :: r => if b = false then do
      let a ← part t xs off
      let c ← part t ys off
      let q ← Op.equalIn d t a c
      if (!q) = true then pure false else eqF d xs ys r
    else eqF d xs ys r
theorem eqFields_eqF (d : Nat) (xs ys : Array Value) : ∀ fs : List Field, Op.eqFields d xs ys fs = eqF d xs ys (fs.map fun f => (f.name == "_", f.type, f.offset))
  | [] => rfl
  | f :: fs => by
    rw [List.map_cons, eqF, Op.eqFields, eqFields_eqF d xs ys fs]
    by_cases h : f.name = "_"
    · simp [h]
    · have h' : (f.name == "_") = false := by simpa using h
      simp [h, h']
section
variable {P : Program} {w : World}
theorem eqF_nil (d : Nat) (xs ys : Array Value) : (eqF d xs ys []).run P w = .ok true w := by simp [eqF]
theorem eqF_cons (d : Nat) (xs ys : Array Value) (t : TypeId) (off : Nat) (r : List (Bool × TypeId × Nat)) {a b : Value} {p q : Bool} (ha : (part t xs off).run P w = .ok a w) (hb : (part t ys off).run P w = .ok b w)
    (he : (Op.equalIn d t a b).run P w = .ok p w) (hr : (eqF d xs ys r).run P w = .ok q w) : (eqF d xs ys ((false, t, off) :: r)).run P w = .ok (p && q) w := by
  simp only [eqF, if_true, Sem.run_bind, ha, hb, he, Result.andThen_ok, Sem.run_ite, hr, Sem.run_pure]
  cases p <;> simp
theorem eqS (d : Nat) {t : TypeId} (xs ys : Array Value) (l : List (Bool × TypeId × Nat)) (ht : P.underlying t = some (.struct (P.fieldsOf t))) (hp : P.stoodInHeld t = false) (hl : (P.fieldsOf t).toList.map (fun f => (f.name == "_", f.type, f.offset)) = l)
    {q : Bool} (h : (eqF d xs ys l).run P w = .ok q w) : (Op.equalIn (d + 1) t (.agg xs) (.agg ys)).run P w = .ok q w := by
  rw [run_equalIn_struct w d t xs ys ht hp, eqFields_eqF, hl, h]
end
theorem plain3 : Tryd.prog.plainKey 3 = true := by kernel_rfl
abbrev Val.c3 (x : Val) : Array Value := #[.int .i64 x.kind, .int .i64 x.n, .string (str x.s)]
end Go.Proofs.YtfgjhgecmelccaaDoor
namespace Go.Proofs.YtfgjhgecmelccaaDoor
open Go.RowKit

section
variable {P : Program} {w : World}
theorem stop_bin {ops : Array Oper} {rest : List Oper} {o : Oper} {a : Act} {Q : Exit → Act → World → Prop} (op : BinOp) (ty : TypeId) (x y : Operand) (ty2 : TypeId) (_ : o.op = .binOp op ty x y ty2) (h : Stop (wpList P ops Q (o :: rest) a w)) : wpList P ops Q (o :: rest) a w := h
theorem wpList_eqlS {ops : Array Oper} {rest : List Oper} {o : Oper} {a : Act} {Q : Exit → Act → World → Prop} (hw : Region.wanted o (yielded ops a.tmps) = true) (ty : TypeId) (x y : Operand) (ty2 : TypeId) (ho : o.op = .binOp .eql ty x y ty2)
    (xs ys : Array Value) (hx : a.eval x = .agg xs) (hy : a.eval y = .agg ys) (hg : P.eqGuardType P.depth ty = false) (b : Bool) (he : (Op.equalIn 10000 ty (.agg xs) (.agg ys)).run P w = .ok b w)
    (h : wpList P ops Q rest (a.put o.dst (.bool b)) w) : wpList P ops Q (o :: rest) a w := by
  refine wpList_g hw fun K hK => ?_
  unfold Oper.wp execOp
  simp only [ho, hx, hy, Sem.run_bind, Sem.run_pure, Result.andThen_ok, run_eqGuard_agg w _ _ _ _ _ _ hg, run_eql_struct, he]
  exact hK _ _ h
end
end Go.Proofs.YtfgjhgecmelccaaDoor
namespace Go.Proofs.YtfgjhgecmelccaaDoor
open Go.RowKit

theorem h_tok : Tryd.prog.stoodInHeld 72 = false := by kernel_rfl
theorem u_tok : Tryd.prog.underlying 72 = some (.struct (Tryd.prog.fieldsOf 72)) := by kernel_rfl
theorem f_tok : (Tryd.prog.fieldsOf 72).toList.map (fun f => (f.name == "_", f.type, f.offset)) = [(false, 3, 0), (false, 3, 1), (false, 3, 2), (false, 3, 3)] := by kernel_rfl
theorem gT : Tryd.prog.eqGuardType Tryd.prog.depth 72 = false := by kernel_rfl
set_option maxRecDepth 100000 in
theorem eq_tok (d : Nat) (x y : Tok) (w : World) : (Op.equalIn (d + 2) 72 (.agg x.arr) (.agg y.arr)).run Tryd.prog w = .ok (decide (x = y)) w := by
  have h : (eqF (d + 1) x.arr y.arr [(false, 3, 0), (false, 3, 1), (false, 3, 2), (false, 3, 3)]).run Tryd.prog w = .ok (x.dev == y.dev && (x.epoch == y.epoch && (x.seq == y.seq && (x.cursor == y.cursor && true)))) w :=
    eqF_cons _ _ _ _ _ _ (run_part_plain w plain3 rfl) (run_part_plain w plain3 rfl) (run_equalIn_int w d _ _ _ _ _ Tryd.underlying3)
    (eqF_cons _ _ _ _ _ _ (run_part_plain w plain3 rfl) (run_part_plain w plain3 rfl) (run_equalIn_int w d _ _ _ _ _ Tryd.underlying3)
    (eqF_cons _ _ _ _ _ _ (run_part_plain w plain3 rfl) (run_part_plain w plain3 rfl) (run_equalIn_int w d _ _ _ _ _ Tryd.underlying3)
    (eqF_cons _ _ _ _ _ _ (run_part_plain w plain3 rfl) (run_part_plain w plain3 rfl) (run_equalIn_int w d _ _ _ _ _ Tryd.underlying3)
      (eqF_nil _ _ _))))
  rw [eqS (d + 1) _ _ _ u_tok h_tok f_tok h]
  congr 1
  rw [Bool.eq_iff_iff]
  obtain ⟨a, b, c, e⟩ := x
  obtain ⟨a', b', c', e'⟩ := y
  simp
abbrev a26 : Tok := ⟨2, 1, 7, 1073741824⟩
theorem a26_text : tokT a26 = [50, 46, 49, 46, 55, 46, 97, 108, 108] := by decide +kernel
set_option maxHeartbeats 400000 in
theorem c_law26_awake (w : World) (hP : PowTab w) : Calls Tryd.prog 30 #[] w (RetV w (.bool true)) := by
  go_enter Tryd.func30, Tryd.ntmps30
  go_wp2_with (fail)
  refine (c_token_Show a26 _ hP).mono ?_
  rintro e w1 ⟨rfl, hb1⟩
  rw [a26_text]
  go_wp2_with (fail)
  go_ret
  exact RetV.bool rfl hb1
end Go.Proofs.YtfgjhgecmelccaaDoor
namespace Go.Proofs.YtfgjhgecmelccaaDoor
open Go.RowKit

theorem relgoals_genN {P : Program} {ops : Array Oper} {S : List Sp} {a : Act} {w : World} {r : List Oper} {s : Nat} (h : ∀ fr, fr = a → RelGoals P ops S fr w r s) : RelGoals P ops S a w r s := h a rfl
/-- The two readers; g ahead of h; nothing below the call's own has turned. -/
structure RW (w w' : World) (g h : Nat) (s1 s2 : Rd) : Prop where
  below : Below w.heap.size w w'
  rp : RdP w' (some g) s1
  rr : RdR w' h s2
  og : w.heap.size ≤ g
  gh : g < h
section
variable {w w' w2 : World} {g h : Nat} {s1 s2 s3 : Rd}
theorem RW.step (L : RW w w' g h s1 s2) (hb : Below w'.heap.size w' w2) : RW w w2 g h s1 s2 := ⟨L.below.trans (hb.mono L.below.size), L.rp.below hb, L.rr.below hb, L.og, L.gh⟩
theorem RW.hi (L : RW w w' g h s1 s2) : h < w'.heap.size := L.rr.lt
end
end Go.Proofs.YtfgjhgecmelccaaDoor
