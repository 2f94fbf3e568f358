/-
  Lemmas (walks and plain laws), in one text.
-/
import Derived.Test.YtjhndilflcigiaaPc9
import Derived.Test.YtjhndilflcigiaaRows
import Derived.WalkKit
import Derived.WalkSpells
import Derived.WalkLawsBesides
import Derived.Lib.Hide
import Derived.Deep.QuietTactic
import Derived.BigQuiet
import Derived.Maps.AppendAt
import Derived.WalkSmall
import Derived.ProofKit
import Derived.OpenShut
import Derived.JoinedCond
import Derived.Deep.Slices
import Derived.Deep.Fields
import Derived.Carry
import Derived.Test.YtjhndilflcigiaaProg
import Derived.Deep.CutBlock
import Derived.Deep.DeepCutAuto
import Derived.Deep.AppendSrc
import Derived.Lib.AppendStr
import Derived.Laws.BytesArg
import Derived.Laws.CopyOwn
import Derived.Outline
import Derived.IntWalk
import Derived.Lib.EndianBits
import Derived.Laws.Tables
import Derived.Laws.Rows
import Derived.Shelf.Spec.TrailingZeros
import Derived.StillTail
import Derived.Lib.AppendZeros
import Derived.Deep.Quiet
import Derived.ChangeKeysEq
import Derived.Laws.StructEq
import Derived.Laws.LoneSync
namespace Go.Proofs.Ytjhndilflcigiaa
open Go.RowKit

structure LRow where
  last : Int
  ep : Int
  a : Rep
/-- A row, and where its answer's filter lies. -/
abbrev LR := LRow × Option Addr × Nat
def LR.cells (x : LR) : List Value := [.int .i64 x.1.last, .int .i64 x.1.ep] ++ (x.1.a.arr x.2.1 x.2.2).toList
theorem LR.cells_len (x : LR) : (LR.cells x).length = 12 := rfl
@[irreducible] def lgArr (l : List LR) : Array Value := (l.flatMap LR.cells).toArray
theorem lg_size (l : List LR) : (lgArr l).size = l.length * 12 := by unfold lgArr; rw [List.size_toArray, flat_length LR.cells_len]
theorem lg_get {l : List LR} {k : Nat} (h : k < l.length) (j : Nat) (hj : j < 12) : (lgArr l)[k * 12 + j]? = (LR.cells l[k])[j]? := by
  unfold lgArr; rw [List.getElem?_toArray]; exact flat_get LR.cells_len l k h j hj
theorem lg_part {l : List LR} {k : Nat} (h : k < l.length) {w : World} {g : Nat} (hb : Blk w g (lgArr l)) (j : Nat) (u : Value) (hu : (l[k].1.a.arr l[k].2.1 l[k].2.2)[j]? = some u) : w.cell? ⟨g, k * 12 + 2 + j, none⟩ = some u := by
  refine hb.cell ?_
  have hj : j < 10 := (Array.getElem?_eq_some_iff.1 hu).1
  rw [Nat.add_assoc, lg_get h (2 + j) (by omega)]
  unfold LR.cells
  rw [List.getElem?_append_right (by simp)]
  simpa using hu
/-- A call that hands back an answer of its own. -/
def RetOwn (w : World) (a : Rep) (e : Ending) (w' : World) : Prop :=
  ∃ A c, e = .returned (.agg (a.arr A c)) ∧ w'.ownsRow w.heap.size 102 5 (.slice A a.f.length c) a.f.length (a.f.flatMap Node.cells) ∧ Below w.heap.size w w'
set_option maxHeartbeats 1000000 in
set_option maxRecDepth 4000 in
theorem c_ledger_own (a : Rep) (A : Option Addr) (c : Nat) (w : World) (h : InN w A c a.f) : Calls Try.prog 40 #[.agg (a.arr A c)] w (RetOwn w a) := by
  have HI := Lib.hid h
  have B0 := Lib.hid (At2.new w 47 47 (a.arr A c) (Rep.arr rz none 0))
  obtain ⟨q0, q1, q2, q3, q4, q5, q6, q7, q8, q9⟩ := rep_cells B0.out.2.1
  clear h
  go_enter Try.func40, Try.ntmps40
  go_wp2_with (fail)
  refine (c_Clone_n a.f A c _ (HI.out.below B0.out.1)).mono ?_
  rintro e w1 ⟨v, rfl, own, hb1⟩
  obtain ⟨A1, c1, rfl, -⟩ := own_form own
  have O := Lib.hid own
  replace B0 := Lib.hid (B0.out.step hb1)
  clear q0 q1 q2 q3 q4 q5 q6 q7 q8 q9 hb1 own
  obtain ⟨q0, q1, q2, q3, q4, q5, q6, q7, q8, q9⟩ := rep_cells B0.out.2.1
  have ff := fun i => B0.out.2.1.frozen i
  have K1 := Lib.hid (kept_set w1 w.heap.size 8 (.slice A1 a.f.length c1))
  have B1 := Lib.hid (show Blk (w1.setCell ⟨w.heap.size, 8, none⟩ (.slice A1 a.f.length c1)) w.heap.size (a.arr A1 c1) from B0.out.2.1.store 8 _)
  have B2 := Lib.hid (B0.out.2.2.far (q := ⟨w.heap.size, 8, none⟩) (by simp) (.slice A1 a.f.length c1))
  have hz := B0.out.1.size
  have O1 := Lib.hid (own_kept O.out K1.out (fun g hg => by injection hg with hg; simp; omega))
  have KB := Lib.hid ((Kept.of_below B0.out.1 : Kept none _ _ _).trans (K1.out.one (p := none) hz (.inl (Nat.le_refl _))))
  go_wp2_with (with_reducible refine stop_load 47 (.tmp 1) rfl rfl ?_)
  refine Stop.mk (wpList_loadB rfl _ _ rfl w.heap.size rfl _ B1.out strRp rfl ?_)
  go_wp2_with (with_reducible refine stop_store 47 (.tmp 2) (.tmp 7) rfl rfl ?_)
  refine Stop.mk (wpList_storeB rfl _ _ _ rfl (w.heap.size + 1) _ (by first | rfl | simp) rfl _ B2.out strRp rfl rfl (by simp [Value.oneCell']) ?_)
  intro w9 hb9 hk9
  have O9 := own_kept O1.out hk9 (fun g hg => by injection hg with hg; simp; omega)
  go_wp2_with (fail)
  refine bodyPost_ret (results_B (g := w.heap.size + 1) rfl (by first | rfl | simp) hb9 strRp rfl) rfl ⟨A1, c1, rfl, own_base O9 (by simp; omega), ?_⟩
  exact (KB.out.trans (hk9.one (p := none) (by simpa [World.setCell] using hz) (.inl (by omega)))).below (Nat.le_refl _) (fun g hg => by cases hg)
theorem c_ledger_New (w : World) : Calls Try.prog 15 #[] w (fun e w' => e = .returned (.pointer (some ⟨w.heap.size, 0, none⟩)) ∧ Blk w' w.heap.size (lgArr (List.replicate 6 (⟨0, 0, rz⟩, none, 0))) ∧ Below w.heap.size w w') := by
  go_enter Try.func15, Try.ntmps15
  go_wp2_with (fail)
  go_ret
  exact ⟨rfl, by unfold lgArr; exact Blk.new _ _ _, (by repeat (first | exact Below.refl _ _ | refine Below.drew ?_ | refine Below.alloc ?_ (by first | omega | (simp; done) | (simp; omega)) _ | refine Below.setCell ?_ (by first | omega | (simp; done) | (simp; omega)) _ | refine Below.trans ?_ (Below.mono (by assumption) (by first | omega | (simp; done) | (simp; omega)))))⟩
end Go.Proofs.Ytjhndilflcigiaa
namespace Go.Proofs.Ytjhndilflcigiaa
open Go.RowKit

structure Card where
  id : Int
  ver : Int
  lab : Nat
  f : List Val
deriving DecidableEq
structure Patch where
  mask : Nat
  lab : Nat
  f : List Val
deriving DecidableEq
structure Edit where
  kind : Int
  id : Int
  group : Int
  p : Patch
deriving DecidableEq
@[irreducible] def farr (f : List Val) : Array Value := (f.flatMap Val.cells).toArray
@[irreducible] def Card.arr (c : Card) : Array Value := (([.int .i64 c.id, .int .i64 c.ver, .int .u32 c.lab] : List Value) ++ c.f.flatMap Val.cells).toArray
@[irreducible] def Patch.arr (p : Patch) : Array Value := (([.int .u32 p.mask, .int .u32 p.lab] : List Value) ++ p.f.flatMap Val.cells).toArray
@[irreducible] def Edit.arr (e : Edit) : Array Value := (([.int .i64 e.kind, .int .i64 e.id, .int .i64 e.group, .int .u32 e.p.mask, .int .u32 e.p.lab] : List Value) ++ e.p.f.flatMap Val.cells).toArray
section
variable {f : List Val} {k : Nat}
end
end Go.Proofs.Ytjhndilflcigiaa
namespace Go.Proofs.Ytjhndilflcigiaa
open Go.RowKit

section
variable {P : Program} {w : World}
theorem Str.agg {ty : TypeId} {n : Nat} (S : Str P ty n) (w : World) : (isAgg ty).run P w = .ok true w := by
  obtain ⟨d, h1, h2⟩ := S.desc
  unfold isAgg
  rw [Sem.run_bind, run_underlying h1 w]
  cases d <;> simp_all
theorem Str.sizeOf {ty : TypeId} {n : Nat} (S : Str P ty n) (w : World) : (Go.sizeOf ty).run P w = .ok n w := by
  have h := S.size
  cases hq : P.info? ty with
  | none => rw [hq] at h; cases h
  | some i =>
    rw [hq] at h
    simp at h
    simp [Go.sizeOf, typeInfo, hq, h]
theorem run_loadVar_at (g off : Nat) (cs : Array Value) (ty : TypeId) (hcell : ∀ (j : Nat) u, cs[j]? = some u → w.cell? ⟨g, off + j, none⟩ = some u) {n : Nat} (S : Str P ty n) (hn : cs.size = n) :
    (loadVar ty ⟨g, off, none⟩).run P w = .ok (.agg cs) w := by
  have hl : (loadCells ⟨g, off, none⟩ cs.toList.length).run P w = .ok cs.toList.toArray w :=
    run_loadCells_list (P := P) w ⟨g, off, none⟩ cs.toList (fun j v hv => by
      rw [add_lit']
      exact hcell j v (by simpa using hv))
  simp only [Array.length_toList, Array.toArray_toList, hn] at hl
  simp only [loadVar, Sem.run_bind, S.agg, S.sizeOf, Result.andThen_ok, if_true, hl, Sem.run_pure]
theorem wpList_loadAt {ops : Array Oper} {rest : List Oper} {o : Oper} {a : Act} {Q : Exit → Act → World → Prop} (hgd : o.guard = none) (ty : TypeId) (x : Operand) (ho : o.op = .load ty x)
    (g off : Nat) (hx : a.eval x = .pointer (some ⟨g, off, none⟩)) (cs : Array Value) (hcell : ∀ (j : Nat) u, cs[j]? = some u → w.cell? ⟨g, off + j, none⟩ = some u) {n : Nat} (S : Str P ty n) (hn : cs.size = n)
    (h : wpList P ops Q rest (a.put o.dst (.agg cs)) w) : wpList P ops Q (o :: rest) a w := by
  refine wpList_plain hgd fun K hK => ?_
  unfold Oper.wp execOp
  simp only [ho, hx, Instr.loadAt, Instr.sureAddr, Sem.run_bind, Sem.run_pure, Result.andThen_ok, run_loadVar_at g off cs ty hcell S hn]
  exact hK _ _ h

/-- A guarded operation that is wanted. -/
theorem wpList_g {ops : Array Oper} {rest : List Oper} {o : Oper} {a : Act} {Q : Exit → Act → World → Prop} (hw : Region.wanted o (yielded ops a.tmps) = true)
    (h : ∀ K : Act → World → Prop, (∀ a w, wpList P ops Q rest a w → K a w) → o.wp P a w K Q) : wpList P ops Q (o :: rest) a w := by
  rw [wpList, if_pos hw]
  exact .inl (h _ fun _ _ h => h)
theorem wpList_loadAtG {ops : Array Oper} {rest : List Oper} {o : Oper} {a : Act} {Q : Exit → Act → World → Prop} (hw : Region.wanted o (yielded ops a.tmps) = true) (ty : TypeId) (x : Operand) (ho : o.op = .load ty x)
    (g off : Nat) (hx : a.eval x = .pointer (some ⟨g, off, none⟩)) (cs : Array Value) (hcell : ∀ (j : Nat) u, cs[j]? = some u → w.cell? ⟨g, off + j, none⟩ = some u) {n : Nat} (S : Str P ty n) (hn : cs.size = n)
    (h : wpList P ops Q rest (a.put o.dst (.agg cs)) w) : wpList P ops Q (o :: rest) a w := by
  refine wpList_g hw fun K hK => ?_
  unfold Oper.wp execOp
  simp only [ho, hx, Instr.loadAt, Instr.sureAddr, Sem.run_bind, Sem.run_pure, Result.andThen_ok, run_loadVar_at g off cs ty hcell S hn]
  exact hK _ _ h
theorem stop_loadG {ops : Array Oper} {rest : List Oper} {o : Oper} {a : Act} {Q : Exit → Act → World → Prop} (ty : TypeId) (x : Operand) (_ : o.op = .load ty x) (h : Stop (wpList P ops Q (o :: rest) a w)) : wpList P ops Q (o :: rest) a w := h
theorem Blk.all {g : Nat} {cs : Array Value} (h : Blk w g cs) (j : Nat) (u : Value) (hu : cs[j]? = some u) : w.cell? ⟨g, 0 + j, none⟩ = some u := by rw [Nat.zero_add]; exact h.cell hu
def putAt (cs : Array Value) (j : Nat) : List Value → Array Value
  | [] => cs
  | v :: r => putAt (cs.setIfInBounds j v) (j + 1) r
theorem putAt_size : ∀ (vs : List Value) (cs : Array Value) (j : Nat), (putAt cs j vs).size = cs.size
  | [], _, _ => rfl
  | v :: r, cs, j => by rw [putAt, putAt_size r]; simp
theorem putAt_far : ∀ (vs : List Value) (cs : Array Value) (j k : Nat), k < j ∨ j + vs.length ≤ k → (putAt cs j vs)[k]? = cs[k]?
  | [], _, _, _, _ => rfl
  | v :: r, cs, j, k, h => by
    simp only [List.length_cons] at h
    rw [putAt, putAt_far r _ _ _ (by omega), Array.getElem?_setIfInBounds_ne (by omega)]
theorem putAt_in : ∀ (vs : List Value) (cs : Array Value) (j i : Nat), j + vs.length ≤ cs.size → i < vs.length → (putAt cs j vs)[j + i]? = vs[i]?
  | [], _, _, _, _, h => by simp at h
  | v :: r, cs, j, 0, hs, _ => by
    simp only [List.length_cons] at hs
    rw [putAt, putAt_far r _ _ _ (by omega), Nat.add_zero, Array.getElem?_setIfInBounds_self_of_lt (by omega)]; rfl
  | v :: r, cs, j, i + 1, hs, h => by
    simp only [List.length_cons] at hs h
    have := putAt_in r (cs.setIfInBounds j v) (j + 1) i (by simp; omega) (by omega)
    rw [putAt, show j + (i + 1) = j + 1 + i by omega, this]; rfl
theorem run_storeCells_at (g off : Nat) : ∀ (vs : List Value) (i : Nat) (cs : Array Value) (w : World), Blk w g cs → off + i + vs.length ≤ cs.size → (∀ v ∈ vs, v.oneCell' = true) →
    ∃ w', (storeCells ⟨g, off, none⟩ vs i).run P w = .ok () w' ∧ Blk w' g (putAt cs (off + i) vs) ∧ Kept (some g) w.heap.size w w'
  | [], i, cs, w, hb, _, _ => ⟨w, rfl, hb, Kept.refl _ _ _⟩
  | v :: r, i, cs, w, hb, hl, h1 => by
    simp only [List.length_cons] at hl
    have hi : off + i < cs.size := by omega
    have hcell : w.cell? ⟨g, off + i, none⟩ = some cs[off + i] := hb.cell (by simp [hi])
    have hfro := hb.frozen (off + i)
    have hst : (store ((⟨g, off, none⟩ : Addr).add i) v).run P w = .ok () (w.setCell ⟨g, off + i, none⟩ v) := by
      rw [add_lit', run_store P w _ v _ (h1 v (by simp)), hcell]
      simp [hfro]
    obtain ⟨w', hr, hb', hk⟩ := run_storeCells_at g off r (i + 1) _ _ (hb.store (off + i) v) (by simp; omega) (fun x hx => h1 x (by simp [hx]))
    have k1 : Kept (some g) w.heap.size w (w.setCell ⟨g, off + i, none⟩ v) := Kept.setCell (q := ⟨g, off + i, none⟩) (Kept.refl (some g) _ w) (.inr rfl) v
    refine ⟨w', ?_, hb', k1.trans ?_⟩
    · simp only [storeCells, Sem.run_bind, hst, Result.andThen_ok, hr]
    · simpa [World.setCell] using hk
theorem wpList_storeAt {ops : Array Oper} {rest : List Oper} {o : Oper} {a : Act} {Q : Exit → Act → World → Prop} (hgd : o.guard = none) (ty : TypeId) (x y : Operand) (ho : o.op = .store ty x y)
    (g off : Nat) (cells : Array Value) (hx : a.eval x = .pointer (some ⟨g, off, none⟩)) (hy : a.eval y = .agg cells) (old : Array Value) (hb : Blk w g old) {n : Nat} (S : Str P ty n) (hn : cells.size = n)
    (hold : off + cells.size ≤ old.size) (h1 : ∀ v ∈ cells.toList, v.oneCell' = true)
    (h : ∀ w', Blk w' g (putAt old off cells.toList) → Kept (some g) w.heap.size w w' → wpList P ops Q rest (a.put o.dst undef) w') : wpList P ops Q (o :: rest) a w := by
  refine wpList_plain hgd fun K hK => ?_
  obtain ⟨w', hr, hb', hk⟩ := run_storeCells_at (P := P) g off cells.toList 0 old w hb (by simpa using hold) h1
  have hs : (storeVar ty ⟨g, off, none⟩ (.agg cells)).run P w = .ok () w' := by
    simp only [storeVar, Sem.run_bind, S.sizeOf, Result.andThen_ok, Value.cells, hn, ne_eq, not_true_eq_false, if_false, hr]
  unfold Oper.wp execOp
  simp only [ho, hx, hy, Instr.storeAt, Instr.sureAddr, Sem.run_bind, Sem.run_pure, Result.andThen_ok, hs]
  exact hK _ _ (h w' hb' hk)
end
/-! Equality. -/
section
variable {P : Program} {w : World}
end
abbrev Val.c3 (x : Val) : Array Value := #[.int .i64 x.kind, .int .i64 x.n, .string (str x.s)]
end Go.Proofs.Ytjhndilflcigiaa
namespace Go.Proofs.Ytjhndilflcigiaa
open Go.RowKit

theorem results_B2 {P : Program} {w : World} {fn : Func} {p s : Tmp} {ty : TypeId} (h : fn.results = #[.cell p ty, .tmp s]) {tmps : Array Value} {g : Nat} {cs : Array Value} {v : Value} (hp : tmps.getD p undef = .pointer (some ⟨g, 0, none⟩)) (hv : tmps.getD s undef = v) (hb : Blk w g cs) {n : Nat} (S : Str P ty n) (hn : cs.size = n) :
    (results fn tmps).run P w = .ok (.tuple #[.agg cs, v]) w := by
  obtain ⟨d, h1, h2⟩ := S.desc
  obtain ⟨t, hb⟩ := hb
  have hl := run_loadVar_row (P := P) w g t ty cs (0, 0) d hb h1 (by cases d <;> first | rfl | (simp at h2)) (by rw [S.size, hn])
  have hp' : tmps[p]?.getD undef = .pointer (some ⟨g, 0, none⟩) := by simpa using hp
  have hv' : tmps[s]?.getD undef = v := by simpa using hv
  simp [results, h, hp', hv', asAddr, hl]
theorem fresh_below {w w' : World} {o : Obj} (hk : Kept (some w.heap.size) (w.alloc o).heap.size (w.alloc o) w') : Below w.heap.size w w' := ((Below.refl _ _).alloc (Nat.le_refl _) _).trans (hk.oneB (by simp) (Nat.le_refl _))
/-- The first block of a call's own is made. -/
theorem At.go {P : Program} {ops : Array Oper} {l : List Oper} {a : Act} {Q : Exit → Act → World → Prop} {t : TypeId} {w : World} {cs : Array Value} (h : ∀ w', At w w' cs → w'.heap.size = w.heap.size + 1 → wpList P ops Q l a w') :
    wpList P ops Q l a (w.alloc (.cells cs t)) := h _ (At.new w t cs) (by simp)
theorem At.as {w w' : World} {cs ds : Array Value} (h : At w w' cs) (e : cs = ds) : At w w' ds := e ▸ h
theorem At.kept {w w1 w2 : World} {cs : Array Value} (h : At w w1 cs) {q : Nat} (hq : w.heap.size < q) (k : Kept (some q) w1.heap.size w1 w2) : At w w2 cs :=
  ⟨h.1.trans (k.oneB h.1.size (by omega)), h.2.kept k h.2.lt (fun e => by injection e with e; omega)⟩
theorem At.lt {w w' : World} {cs : Array Value} (h : At w w' cs) : w.heap.size < w'.heap.size := h.2.lt
end Go.Proofs.Ytjhndilflcigiaa
namespace Go.Proofs.Ytjhndilflcigiaa
open Go.RowKit

/-- The end of Ask. -/
def RetAsk (w : World) (a : Rep) (code : Int) (e : Ending) (w' : World) : Prop :=
  ∃ A c, e = .returned (.tuple #[.agg (a.arr A c), .int .i64 code]) ∧ w'.ownsRow w.heap.size 102 5 (.slice A a.f.length c) a.f.length (a.f.flatMap Node.cells) ∧ Below w.heap.size w w'
/-- The ledger's rows, each filter in its place. -/
def Lg (w : World) (g : Nat) (l : List LR) : Prop := l.length = 6 ∧ Blk w g (lgArr l) ∧ ∀ x ∈ l, InN w x.2.1 x.2.2 x.1.a.f ∧ (x.1.a.f = [] ∨ ∀ ad, x.2.1 = some ad → ad.block ≠ g)
theorem Lg.below {w w' : World} {g : Nat} {l : List LR} (h : Lg w g l) (hb : Below w.heap.size w w') : Lg w' g l := ⟨h.1, h.2.1.below hb h.2.1.lt, fun x hx => ⟨(h.2.2 x hx).1.below hb, (h.2.2 x hx).2⟩⟩
def rowsOf (l : List LR) : List LRow := l.map (·.1)
def askBad (dev req : Int) : Prop := dev < 0 ∨ 6 ≤ dev ∨ req < 1 ∨ 1099511627776 < req
instance (dev req : Int) : Decidable (askBad dev req) := by unfold askBad; infer_instance
def rowAt (l : List LRow) (dev : Int) : LRow := l.getD dev.toNat ⟨0, 0, rz⟩
def askE (l : List LRow) (dev req : Int) : Int := if askBad dev req then 1 else if req < (rowAt l dev).last then 13 else if req = (rowAt l dev).last then 7 else 0
def askA (l : List LRow) (dev req : Int) : Rep := if askBad dev req then rz else if req = (rowAt l dev).last then (rowAt l dev).a else rz
theorem rowAt_of {l : List LR} {k : Nat} (h : k < l.length) : rowAt (rowsOf l) k = l[k].1 := by unfold rowAt rowsOf; simp [h]
set_option maxHeartbeats 1000000 in
set_option maxRecDepth 4000 in
theorem ledger_Ask_arg (g : Nat) (dev req : Int) (w : World) (h : dev < 0 ∨ 6 ≤ dev ∨ req < 1 ∨ 1099511627776 < req) : Calls Try.prog 20 #[.pointer (some ⟨g, 0, none⟩), .int .i64 dev, .int .i64 req] w (RetAsk w rz 1) := by
  have B0 := Lib.hid (At.new w 47 (Rep.arr rz none 0))
  have hcs : dev < 0 ∨ (0 ≤ dev ∧ 6 ≤ dev) ∨ (0 ≤ dev ∧ dev < 6 ∧ req < 1) ∨ (0 ≤ dev ∧ dev < 6 ∧ 1 ≤ req ∧ 1099511627776 < req) := by omega
  clear h
  rcases hcs with h1 | ⟨h1, h2⟩ | ⟨h1, h2, h3⟩ | ⟨h1, h2, h3, h4⟩
  all_goals
    go_enter Try.func20, Try.ntmps20
    go_wp2_with (with_reducible refine stop_store 47 (.tmp 6) (.tmp 27) rfl rfl ?_)
    refine Stop.mk (wpList_storeB rfl _ _ _ rfl w.heap.size _ rfl rfl _ B0.out.2 strRp rfl rfl (by simp [Value.oneCell']) ?_)
    intro w9 hb9 hk9
    go_wp2_with (fail)
    exact bodyPost_ret (results_B2 rfl rfl rfl hb9 strRp rfl) rfl ⟨none, 0, rfl, World.ownsRow_nil _ _ _ _, B0.out.1.trans (hk9.oneB B0.out.1.size (Nat.le_refl _))⟩
set_option maxHeartbeats 1000000 in
set_option maxRecDepth 4000 in
theorem ledger_Ask_no (g : Nat) (l : List LR) (k : Nat) (req : Int) (w : World) (h : Lg w g l) (hk : k < 6) (r1 : 1 ≤ req) (r2 : req ≤ 1099511627776) (hne : req ≠ (l[k]'(by rw [h.1]; exact hk)).1.last) :
    Calls Try.prog 20 #[.pointer (some ⟨g, 0, none⟩), .int .i64 k, .int .i64 req] w (RetAsk w rz (if req < (l[k]'(by rw [h.1]; exact hk)).1.last then 13 else 0)) := by
  have hkl : k < l.length := by rw [h.1]; exact hk
  have B0 := Lib.hid (At.new w 47 (Rep.arr rz none 0))
  have q := h.2.1.cell (by have := lg_get hkl 0 (by omega); rw [Nat.add_zero] at this; exact this)
  obtain ⟨L, hL⟩ : ∃ L, L = l[k].1.last := ⟨_, rfl⟩
  have q' : w.cell? ⟨g, k * 12, none⟩ = some (.int .i64 L) := by rw [hL]; exact q
  have hgl := h.2.1.lt
  have k1 : decide (req < 1) = false := by simpa using r1
  have k2 : decide (1099511627776 < req) = false := by simpa using r2
  rw [← hL] at hne ⊢
  have hcs : k = 0 ∨ k = 1 ∨ k = 2 ∨ k = 3 ∨ k = 4 ∨ k = 5 := by omega
  clear q hL h hk hkl
  by_cases hlt : req < L
  · rw [if_pos hlt]
    have j1 : decide (req < L) = true := by simpa using hlt
    clear hlt hne
    rcases hcs with rfl | rfl | rfl | rfl | rfl | rfl
    all_goals
      simp only [Nat.reduceMul] at q'
      go_enter Try.func20, Try.ntmps20
      go_wp2_with (with_reducible refine stop_store 47 (.tmp 6) (.tmp 38) rfl rfl ?_)
      refine Stop.mk (wpList_storeB rfl _ _ _ rfl w.heap.size _ rfl rfl _ B0.out.2 strRp rfl rfl (by simp [Value.oneCell']) ?_)
      intro w9 hb9 hk9
      go_wp2_with (fail)
      exact bodyPost_ret (results_B2 rfl rfl rfl hb9 strRp rfl) rfl ⟨none, 0, rfl, World.ownsRow_nil _ _ _ _, B0.out.1.trans (hk9.oneB B0.out.1.size (Nat.le_refl _))⟩
  · rw [if_neg hlt]
    have j1 : decide (req < L) = false := by simpa using hlt
    have j2 : (req == L) = false := by simpa using hne
    clear hlt hne
    rcases hcs with rfl | rfl | rfl | rfl | rfl | rfl
    all_goals
      simp only [Nat.reduceMul] at q'
      go_enter Try.func20, Try.ntmps20
      go_wp2_with (with_reducible refine stop_store 47 (.tmp 6) (.tmp 57) rfl rfl ?_)
      refine Stop.mk (wpList_storeB rfl _ _ _ rfl w.heap.size _ rfl rfl _ B0.out.2 strRp rfl rfl (by simp [Value.oneCell']) ?_)
      intro w9 hb9 hk9
      go_wp2_with (fail)
      exact bodyPost_ret (results_B2 rfl rfl rfl hb9 strRp rfl) rfl ⟨none, 0, rfl, World.ownsRow_nil _ _ _ _, B0.out.1.trans (hk9.oneB B0.out.1.size (Nat.le_refl _))⟩
set_option maxHeartbeats 2000000 in
set_option maxRecDepth 4000 in
theorem ledger_Ask_there (g : Nat) (l : List LR) (k : Nat) (req : Int) (w : World) (h : Lg w g l) (hk : k < 6) (r1 : 1 ≤ req) (r2 : req ≤ 1099511627776) (x : LR) (hx : ∀ hq, l[k]'hq = x) (he : req = x.1.last) :
    Calls Try.prog 20 #[.pointer (some ⟨g, 0, none⟩), .int .i64 k, .int .i64 req] w (RetAsk w x.1.a 7) := by
  have hkl : k < l.length := by rw [h.1]; exact hk
  have hx' := hx hkl
  have B0 := Lib.hid (At.new w 47 (Rep.arr rz none 0))
  have HI := Lib.hid (h.2.2 l[k] (List.getElem_mem hkl)).1
  rw [hx'] at HI
  have q := h.2.1.cell (by have := lg_get hkl 0 (by omega); rw [Nat.add_zero] at this; exact this)
  rw [hx'] at q
  have q' : w.cell? ⟨g, k * 12, none⟩ = some (.int .i64 req) := by rw [he]; exact q
  have hgl := h.2.1.lt
  have PT := Lib.hid (fun (j : Nat) (u : Value) (hu : (x.1.a.arr x.2.1 x.2.2)[j]? = some u) => lg_part hkl (h.2.1.below ((Below.refl _ _).alloc (Nat.le_refl _) (.cells (Rep.arr rz none 0) 47)) h.2.1.lt) j u (by rw [hx']; exact hu))
  have k1 : decide (req < 1) = false := by simpa using r1
  have k2 : decide (1099511627776 < req) = false := by simpa using r2
  have hcs : k = 0 ∨ k = 1 ∨ k = 2 ∨ k = 3 ∨ k = 4 ∨ k = 5 := by omega
  clear q hx hx' he h hk hkl
  rcases hcs with rfl | rfl | rfl | rfl | rfl | rfl
  all_goals
    simp only [Nat.reduceMul] at q'
    go_enter Try.func20, Try.ntmps20
    go_wp2_with (with_reducible refine stop_load 47 (.tmp 54) rfl rfl ?_)
    refine Stop.mk (wpList_loadAt rfl _ _ rfl g _ rfl (x.1.a.arr x.2.1 x.2.2) PT.out strRp rfl ?_)
    go_wp2_with (fail)
    refine (c_ledger_own x.1.a x.2.1 x.2.2 _ (HI.out.below B0.out.1)).mono ?_
    rintro e w1 ⟨A1, c1, rfl, own, hb1⟩
    replace B0 := Lib.hid (B0.out.step hb1)
    have O := Lib.hid own
    clear own hb1
    go_wp2_with (with_reducible refine stop_store 47 (.tmp 6) (.tmp 56) rfl rfl ?_)
    refine Stop.mk (wpList_storeB rfl _ _ _ rfl w.heap.size _ rfl rfl _ B0.out.2 strRp rfl rfl (by simp [Value.oneCell']) ?_)
    intro w9 hb9 hk9
    have O9 := Lib.hid (own_kept O.out hk9 (fun b hb => by injection hb with hb; simp; omega))
    go_wp2_with (fail)
    exact bodyPost_ret (results_B2 rfl rfl rfl hb9 strRp rfl) rfl ⟨A1, c1, rfl, own_base O9.out (by simp), B0.out.1.trans (hk9.oneB B0.out.1.size (Nat.le_refl _))⟩
theorem c_ledger_Ask (g : Nat) (l : List LR) (dev req : Int) (w : World) (h : Lg w g l) :
    Calls Try.prog 20 #[.pointer (some ⟨g, 0, none⟩), .int .i64 dev, .int .i64 req] w (RetAsk w (askA (rowsOf l) dev req) (askE (rowsOf l) dev req)) := by
  unfold askA askE
  by_cases hb : askBad dev req
  · rw [if_pos hb, if_pos hb]; exact ledger_Ask_arg g dev req w hb
  · rw [if_neg hb, if_neg hb]
    unfold askBad at hb
    obtain ⟨k, rfl⟩ : ∃ k : Nat, dev = k := ⟨dev.toNat, by omega⟩
    have hk : k < 6 := by omega
    have hkl : k < l.length := by rw [h.1]; exact hk
    rw [rowAt_of hkl]
    by_cases he : req = l[k].1.last
    · rw [if_pos he, if_neg (by omega), if_pos he]
      exact ledger_Ask_there g l k req w h hk (by omega) (by omega) l[k] (fun _ => rfl) he
    · rw [if_neg he, if_neg he]
      exact ledger_Ask_no g l k req w h hk (by omega) (by omega) he
end Go.Proofs.Ytjhndilflcigiaa
