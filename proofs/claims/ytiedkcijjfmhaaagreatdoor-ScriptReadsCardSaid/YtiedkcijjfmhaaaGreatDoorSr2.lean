/-
  Lemmas (walks and plain laws), in one text.
-/
import Derived.Test.YtiedkcijjfmhaaaGreatDoorSr1
import Derived.Laws.Rows
import Derived.Laws.Tables
import Derived.ChangeKeysEq
import Derived.Laws.StructEq
import Derived.Test.YtiedkcijjfmhaaaGreatDoorProg
import Derived.Deep.CutBlock
import Derived.Deep.DeepCutAuto
import Derived.IntWalk
import Derived.Outline
import Derived.Deep.Quiet
import Derived.StillTail
namespace Go.Proofs.YtiedkcijjfmhaaaGreatDoor
open Go.RowKit

/-- A value's bytes. -/
def valB (x : Val) : List UInt8 := if x.ok then num x.kind ++ (if x.kind = 1 then num x.n else if x.kind = 2 then strB x.s else []) else []
theorem valB_none {x : Val} (h : x.ok = false) : valB x = [] := by unfold valB; rw [h]; rfl
theorem valB_0 {x : Val} (h : x.ok = true) (hk : x.kind = 0) : valB x = num x.kind := by unfold valB; rw [if_pos h, if_neg (by omega), if_neg (by omega), List.append_nil]
theorem valB_1 {x : Val} (h : x.ok = true) (hk : x.kind = 1) : valB x = num x.kind ++ num x.n := by unfold valB; rw [if_pos h, if_pos hk]
theorem valB_2 {x : Val} (h : x.ok = true) (hk : x.kind = 2) : valB x = num x.kind ++ strB x.s := by unfold valB; rw [if_pos h, if_neg (by omega), if_pos hk]
theorem Val.ok_len {x : Val} (h : x.ok = true) : x.s.length ≤ 24 := by
  unfold Val.ok at h
  by_cases h0 : x.kind = 0
  · simp [h0] at h; simp [h.2]
  · by_cases h1 : x.kind = 1
    · simp [h1] at h; simp [h.2]
    · by_cases h2 : x.kind = 2
      · simp [h2] at h; exact h.2
      · simp [h0, h1, h2] at h
theorem valB_len (x : Val) : (valB x).length ≤ 38 := by
  rcases Val.ok_cases x with ⟨h, _⟩ | ⟨h, _, hk⟩ | ⟨h, _, hk⟩ | ⟨h, _, hk⟩
  · rw [valB_none h]; simp
  · have := num_len x.kind; rw [valB_0 h hk]; omega
  · have := num_len x.kind; have := num_len x.n; rw [valB_1 h hk, List.length_append]; omega
  · have := num_len x.kind; have := num_len x.s.length; have := Val.ok_len h; rw [valB_2 h hk, List.length_append, strB, List.length_append]; omega

end Go.Proofs.YtiedkcijjfmhaaaGreatDoor
namespace Go.Proofs.YtiedkcijjfmhaaaGreatDoor
open Go.RowKit

/-- A value off bytes, and what the reader is then. -/
def rdVal' (st : Rd) : Rd := if rdN st 2 = 1 then rdN' (rdN' st 2) 1099511627776 else if rdN st 2 = 2 then rdS' (rdN' st 2) 24 else rdN' st 2
def rdVal (st : Rd) : Val := if (rdVal' st).e = 0 then ⟨rdN st 2, if rdN st 2 = 1 then rdN (rdN' st 2) 1099511627776 else 0, if rdN st 2 = 2 then rdS (rdN' st 2) 24 else []⟩ else ⟨0, 0, []⟩
theorem rdVal_bad {st : Rd} (h : (rdVal' st).e ≠ 0) : rdVal st = ⟨0, 0, []⟩ := by unfold rdVal; rw [if_neg h]
theorem rdVal_1 {st : Rd} (h : (rdVal' st).e = 0) (h1 : rdN st 2 = 1) : rdVal st = ⟨1, rdN (rdN' st 2) 1099511627776, []⟩ := by unfold rdVal; rw [if_pos h, h1]; rfl
theorem rdVal_2 {st : Rd} (h : (rdVal' st).e = 0) (h1 : rdN st 2 = 2) : rdVal st = ⟨2, 0, rdS (rdN' st 2) 24⟩ := by unfold rdVal; rw [if_pos h, h1]; rfl
theorem rdVal_0 {st : Rd} (h : (rdVal' st).e = 0) (h1 : rdN st 2 = 0) : rdVal st = ⟨0, 0, []⟩ := by unfold rdVal; rw [if_pos h, h1]; rfl
theorem rdVal'_1 {st : Rd} (h1 : rdN st 2 = 1) : rdVal' st = rdN' (rdN' st 2) 1099511627776 := by unfold rdVal'; rw [if_pos h1]
theorem rdVal'_2 {st : Rd} (h1 : rdN st 2 = 2) : rdVal' st = rdS' (rdN' st 2) 24 := by unfold rdVal'; rw [if_neg (by omega), if_pos h1]
theorem rdVal'_0 {st : Rd} (h1 : rdN st 2 = 0) : rdVal' st = rdN' st 2 := by unfold rdVal'; rw [if_neg (by omega), if_neg (by omega)]
theorem rdN2_cases (st : Rd) : rdN st 2 = 0 ∨ rdN st 2 = 1 ∨ rdN st 2 = 2 := by have := rdN_bd st 2; omega
theorem rdF_bad (st : Rd) {e : Int} (h : e ≠ 0) : (rdF st e).e ≠ 0 := by unfold rdF; split <;> assumption
theorem rdN_ok {st : Rd} {most : Int} (h : rdN st most ≠ 0) : st.e = 0 ∧ (rdN' st most).e = 0 := by
  refine ⟨?_, ?_⟩
  · by_cases h0 : st.e = 0
    · exact h0
    · exact absurd (rdN_err h0).1 h
  · by_cases h0 : (rdN' st most).e = 0
    · exact h0
    · exact absurd (rdN_err' h0) h
/-- What was taken for a value is its bytes, and it may be. -/
theorem rdVal_took {st : Rd} (h : (rdVal' st).e = 0) : st.e = 0 ∧ (rdVal st).ok = true ∧ st.s = valB (rdVal st) ++ (rdVal' st).s := by
  rcases rdN2_cases st with h0 | h0 | h0
  · have h1 := rdVal'_0 h0
    have h' := h
    rw [h1] at h'
    obtain ⟨e, u, e1, e2, _⟩ := rdN_took h'
    have hv := rdVal_0 h h0
    have hok : (⟨0, 0, []⟩ : Val).ok = true := by decide
    rw [hv, h1, valB_0 hok rfl]
    exact ⟨e, hok, by rw [e1, e2, h0]⟩
  · have h1 := rdVal'_1 h0
    have h' := h
    rw [h1] at h'
    obtain ⟨e, u, e1, e2, _⟩ := rdN_took h'
    obtain ⟨f, u', f1, f2, _⟩ := rdN_took e
    have hb := rdN_bd (rdN' st 2) 1099511627776
    have hv := rdVal_1 h h0
    have hok : (⟨1, rdN (rdN' st 2) 1099511627776, []⟩ : Val).ok = true := by simp [Val.ok]; omega
    rw [hv, h1, valB_1 hok rfl]
    exact ⟨f, hok, by rw [f1, f2, e1, e2, h0]; simp⟩
  · have h1 := rdVal'_2 h0
    have h' := h
    rw [h1] at h'
    obtain ⟨e, u, e1, e2, e3⟩ := rdS_took h'
    obtain ⟨f, u', f1, f2, _⟩ := rdN_took e
    have hv := rdVal_2 h h0
    have hok : (⟨2, 0, rdS (rdN' st 2) 24⟩ : Val).ok = true := by simp [Val.ok]; omega
    rw [hv, h1, valB_2 hok rfl]
    exact ⟨f, hok, by rw [f1, f2, e1, e2, h0]; simp⟩
theorem rdVal_err {st : Rd} (h : st.e ≠ 0) : rdVal st = ⟨0, 0, []⟩ ∧ rdVal' st = st := by
  have h0 : rdVal' st = st := by rw [rdVal'_0 (rdN_err h).1, (rdN_err h).2]
  exact ⟨rdVal_bad (by rw [h0]; exact h), h0⟩
theorem rdVal_ok (st : Rd) : (rdVal st).ok = true := by
  by_cases h : (rdVal' st).e = 0
  · exact (rdVal_took h).2.1
  · rw [rdVal_bad h]; decide
/-! A number that is not 0. -/
def rdAb' (st : Rd) (most : Int) : Rd := if rdN st most = 0 then rdF (rdN' st most) 3 else rdN' st most
theorem rdAb'_zero {st : Rd} {most : Int} (h : rdN st most = 0) : rdAb' st most = rdF (rdN' st most) 3 := by unfold rdAb'; rw [if_pos h]
theorem rdAb'_pos {st : Rd} {most : Int} (h : rdN st most ≠ 0) : rdAb' st most = rdN' st most := by unfold rdAb'; rw [if_neg h]
theorem rdAb'_bad {st : Rd} {most : Int} (h : st.e ≠ 0) : rdAb' st most = st := by rw [rdAb'_zero (rdN_err h).1, (rdN_err h).2, rdF_err h]
theorem rdAb'_ok {st : Rd} {most : Int} (h : (rdAb' st most).e = 0) : rdN st most ≠ 0 ∧ rdAb' st most = rdN' st most := by
  by_cases h0 : rdN st most = 0
  · rw [rdAb'_zero h0] at h
    exact absurd h (rdF_bad _ (by decide))
  · exact ⟨h0, rdAb'_pos h0⟩
theorem rdAb_took {st : Rd} {most : Int} (h : (rdAb' st most).e = 0) : st.e = 0 ∧ st.s = num (rdN st most) ++ (rdAb' st most).s ∧ 1 ≤ rdN st most ∧ rdN st most ≤ most := by
  obtain ⟨h0, h1⟩ := rdAb'_ok h
  rw [h1] at h ⊢
  obtain ⟨e, u, e1, e2, e3⟩ := rdN_took h
  have := (rdN_bd st most).1
  exact ⟨e, by rw [e1, e2], by omega, e3⟩
theorem rdN_took2 {st : Rd} {most : Int} (h : (rdN' st most).e = 0) : st.e = 0 ∧ st.s = num (rdN st most) ++ (rdN' st most).s ∧ 0 ≤ rdN st most ∧ rdN st most ≤ most := by
  obtain ⟨e, u, e1, e2, e3⟩ := rdN_took h
  exact ⟨e, by rw [e1, e2], (rdN_bd st most).1, e3⟩
end Go.Proofs.YtiedkcijjfmhaaaGreatDoor
namespace Go.Proofs.YtiedkcijjfmhaaaGreatDoor
open Go.RowKit

structure Card where
  id : Int
  ver : Int
  lab : Nat
  f : List Val
deriving DecidableEq
structure Patch where
  mask : Nat
  lab : Nat
  f : List Val
deriving DecidableEq
structure Edit where
  kind : Int
  id : Int
  group : Int
  p : Patch
deriving DecidableEq
theorem val_len (x : Val) : x.cells.length = 3 := rfl
@[irreducible] def farr (f : List Val) : Array Value := (f.flatMap Val.cells).toArray
@[irreducible] def Card.arr (c : Card) : Array Value := (([.int .i64 c.id, .int .i64 c.ver, .int .u32 c.lab] : List Value) ++ c.f.flatMap Val.cells).toArray
@[irreducible] def Patch.arr (p : Patch) : Array Value := (([.int .u32 p.mask, .int .u32 p.lab] : List Value) ++ p.f.flatMap Val.cells).toArray
@[irreducible] def Edit.arr (e : Edit) : Array Value := (([.int .i64 e.kind, .int .i64 e.id, .int .i64 e.group, .int .u32 e.p.mask, .int .u32 e.p.lab] : List Value) ++ e.p.f.flatMap Val.cells).toArray
section
variable {f : List Val} {k : Nat}
theorem vals_get (h : k < f.length) : (f.flatMap Val.cells)[k * 3]? = some (.int .i64 f[k].kind) ∧ (f.flatMap Val.cells)[k * 3 + 1]? = some (.int .i64 f[k].n) ∧ (f.flatMap Val.cells)[k * 3 + 2]? = some (.string (str f[k].s)) := by
  have h0 := flat_get val_len f k h 0 (by omega)
  have h1 := flat_get val_len f k h 1 (by omega)
  have h2 := flat_get val_len f k h 2 (by omega)
  exact ⟨h0, h1, h2⟩
theorem farr_size (f : List Val) : (farr f).size = f.length * 3 := by unfold farr; rw [List.size_toArray, flat_length val_len]
theorem farr_get (h : k < f.length) : (farr f)[k * 3]? = some (.int .i64 f[k].kind) ∧ (farr f)[k * 3 + 1]? = some (.int .i64 f[k].n) ∧ (farr f)[k * 3 + 2]? = some (.string (str f[k].s)) := by
  unfold farr
  simpa using vals_get h
theorem Card.arr_size (c : Card) : c.arr.size = 3 + c.f.length * 3 := by unfold Card.arr; rw [List.size_toArray, List.length_append, flat_length val_len]; rfl
theorem Card.arr_head (c : Card) : c.arr[0]? = some (.int .i64 c.id) ∧ c.arr[1]? = some (.int .i64 c.ver) ∧ c.arr[2]? = some (.int .u32 c.lab) := by
  unfold Card.arr; exact ⟨rfl, rfl, rfl⟩
theorem Card.arr_tail (c : Card) (j : Nat) : c.arr[3 + j]? = (farr c.f)[j]? := by
  unfold Card.arr farr
  rw [List.getElem?_toArray, List.getElem?_toArray, List.getElem?_append_right (by simp)]
  congr 1
  simp
theorem Card.arr_val {c : Card} (h : k < c.f.length) : c.arr[3 + k * 3]? = some (.int .i64 c.f[k].kind) ∧ c.arr[3 + k * 3 + 1]? = some (.int .i64 c.f[k].n) ∧ c.arr[3 + k * 3 + 2]? = some (.string (str c.f[k].s)) := by
  have := farr_get h
  rw [← Card.arr_tail, ← Card.arr_tail, ← Card.arr_tail] at this
  exact this
theorem Patch.arr_size (c : Patch) : c.arr.size = 2 + c.f.length * 3 := by unfold Patch.arr; rw [List.size_toArray, List.length_append, flat_length val_len]; rfl
theorem Patch.arr_head (c : Patch) : c.arr[0]? = some (.int .u32 c.mask) ∧ c.arr[1]? = some (.int .u32 c.lab) := by
  unfold Patch.arr; exact ⟨rfl, rfl⟩
theorem Patch.arr_tail (c : Patch) (j : Nat) : c.arr[2 + j]? = (farr c.f)[j]? := by
  unfold Patch.arr farr
  rw [List.getElem?_toArray, List.getElem?_toArray, List.getElem?_append_right (by simp)]
  congr 1
  simp
theorem Patch.arr_val {c : Patch} (h : k < c.f.length) : c.arr[2 + k * 3]? = some (.int .i64 c.f[k].kind) ∧ c.arr[2 + k * 3 + 1]? = some (.int .i64 c.f[k].n) ∧ c.arr[2 + k * 3 + 2]? = some (.string (str c.f[k].s)) := by
  have := farr_get h
  rw [← Patch.arr_tail, ← Patch.arr_tail, ← Patch.arr_tail] at this
  exact this
theorem Edit.arr_size (c : Edit) : c.arr.size = 5 + c.p.f.length * 3 := by unfold Edit.arr; rw [List.size_toArray, List.length_append, flat_length val_len]; rfl
theorem Edit.arr_head (c : Edit) : c.arr[0]? = some (.int .i64 c.kind) ∧ c.arr[1]? = some (.int .i64 c.id) ∧ c.arr[2]? = some (.int .i64 c.group) := by
  unfold Edit.arr; exact ⟨rfl, rfl, rfl⟩
theorem Edit.arr_tail (c : Edit) (j : Nat) : c.arr[3 + j]? = c.p.arr[j]? := by
  unfold Edit.arr Patch.arr
  rw [List.getElem?_toArray, List.getElem?_toArray]
  show (([_, _, _] : List Value) ++ (([_, _] : List Value) ++ _))[3 + j]? = _
  rw [List.getElem?_append_right (by simp)]
  congr 1
  simp
end
end Go.Proofs.YtiedkcijjfmhaaaGreatDoor
namespace Go.Proofs.YtiedkcijjfmhaaaGreatDoor
open Go.RowKit

/-- The type ty is a struct or an array of n cells. -/
structure Str (P : Program) (ty : TypeId) (n : Nat) : Prop where
  desc : ∃ d, P.underlying ty = some d ∧ (match d with | .struct _ | .array _ _ => true | _ => false) = true
  size : (P.info? ty).map (·.size) = some n
section
variable {P : Program} {w : World}
theorem Kept.one {g : Nat} {w' : World} (h : Kept (some g) w.heap.size w w') {p : Option Nat} {B : Nat} (hB : B ≤ w.heap.size) (hg : B ≤ g ∨ p = some g) : Kept p B w w' :=
  ⟨h.os, h.tape, h.output, h.size, fun k hk hp => h.block k (by omega) (fun e => by
    injection e with e; subst e
    rcases hg with hg | hg
    · omega
    · exact hp hg)⟩
theorem Kept.oneB {g B : Nat} {w' : World} (h : Kept (some g) w.heap.size w w') (hB : B ≤ w.heap.size) (hg : B ≤ g) : Below B w w' := h.below hB (fun k hk => by injection hk with hk; omega)
theorem wpList_loadB {ops : Array Oper} {rest : List Oper} {o : Oper} {a : Act} {Q : Exit → Act → World → Prop} (hgd : o.guard = none) (ty : TypeId) (x : Operand) (ho : o.op = .load ty x)
    (g : Nat) (hx : a.eval x = .pointer (some ⟨g, 0, none⟩)) (cs : Array Value) (hb : Blk w g cs) {n : Nat} (S : Str P ty n) (hn : cs.size = n)
    (h : wpList P ops Q rest (a.put o.dst (.agg cs)) w) : wpList P ops Q (o :: rest) a w := by
  obtain ⟨d, h1, h2⟩ := S.desc
  obtain ⟨t, hb⟩ := hb
  exact wpList_load_row hgd ty x ho g hx t cs (0, 0) d hb h1 (by cases d <;> first | rfl | (simp at h2)) (by rw [S.size, hn]) h
theorem Blk.row {g : Nat} {cs : Array Value} (hb : Blk w g cs) (cells : Array Value) : Blk (w.setRow g cells) g cells ∧ Kept (some g) w.heap.size w (w.setRow g cells) := by
  have hlt := hb.lt
  obtain ⟨t, hb⟩ := hb
  exact ⟨⟨t, setRow_heap w g _ _ t _ hb⟩, ⟨rfl, rfl, rfl, by simp [World.setRow], fun k hk hp => setRow_other w g k _ (fun e => hp (by rw [e]))⟩⟩
theorem wsB {ops : Array Oper} {rest : List Oper} {o : Oper} {a : Act} {Q : Exit → Act → World → Prop} (hgd : o.guard = none) (ty : TypeId) (x y : Operand) (ho : o.op = .store ty x y)
    (g : Nat) (cells : Array Value) (hx : a.eval x = .pointer (some ⟨g, 0, none⟩)) (hy : a.eval y = .agg cells) (old : Array Value) (hb : Blk w g old) {n : Nat} (S : Str P ty n) (hn : cells.size = n)
    (hold : old.size = cells.size) (h1 : cells.all (·.oneCell') = true)
    (h : ∀ w', Blk w' g cells → Kept (some g) w.heap.size w w' → wpList P ops Q rest (a.put o.dst undef) w') : wpList P ops Q (o :: rest) a w := by
  obtain ⟨k1, k2⟩ := hb.row cells
  obtain ⟨t, hb⟩ := hb
  exact wpList_store_row hgd ty x y ho g cells hx hy t old hb (by rw [S.size, hn]) hold h1 (h _ k1 k2)
/-- The walk stands still at a read, at a store of a value of type ty. -/
theorem stop_load {ops : Array Oper} {rest : List Oper} {o : Oper} {a : Act} {Q : Exit → Act → World → Prop} (ty : TypeId) (x : Operand) (_ : o.guard = none) (_ : o.op = .load ty x) (h : Stop (wpList P ops Q (o :: rest) a w)) : wpList P ops Q (o :: rest) a w := h
theorem stS {ops : Array Oper} {rest : List Oper} {o : Oper} {a : Act} {Q : Exit → Act → World → Prop} (ty : TypeId) (x y : Operand) (_ : o.guard = none) (_ : o.op = .store ty x y) (h : Stop (wpList P ops Q (o :: rest) a w)) : wpList P ops Q (o :: rest) a w := h
theorem results_B {fn : Func} {p : Tmp} {ty : TypeId} (h : fn.results = #[.cell p ty]) {tmps : Array Value} {g : Nat} {cs : Array Value} (hp : tmps.getD p undef = .pointer (some ⟨g, 0, none⟩)) (hb : Blk w g cs) {n : Nat} (S : Str P ty n) (hn : cs.size = n) :
    (results fn tmps).run P w = .ok (.agg cs) w := by
  obtain ⟨d, h1, h2⟩ := S.desc
  obtain ⟨t, hb⟩ := hb
  exact results_cell_row h tmps w g t cs (0, 0) d hp hb h1 (by cases d <;> first | rfl | (simp at h2)) (by rw [S.size, hn])
end
end Go.Proofs.YtiedkcijjfmhaaaGreatDoor
namespace Go.Proofs.YtiedkcijjfmhaaaGreatDoor
open Go.RowKit

section
variable {P : Program} {w : World}
theorem Str.agg {ty : TypeId} {n : Nat} (S : Str P ty n) (w : World) : (isAgg ty).run P w = .ok true w := by
  obtain ⟨d, h1, h2⟩ := S.desc
  unfold isAgg
  rw [Sem.run_bind, run_underlying h1 w]
  cases d <;> simp_all
theorem Str.sizeOf {ty : TypeId} {n : Nat} (S : Str P ty n) (w : World) : (Go.sizeOf ty).run P w = .ok n w := by
  have h := S.size
  cases hq : P.info? ty with
  | none => rw [hq] at h; cases h
  | some i =>
    rw [hq] at h
    simp at h
    simp [Go.sizeOf, typeInfo, hq, h]
theorem run_loadVar_at (g off : Nat) (cs : Array Value) (ty : TypeId) (hcell : ∀ (j : Nat) u, cs[j]? = some u → w.cell? ⟨g, off + j, none⟩ = some u) {n : Nat} (S : Str P ty n) (hn : cs.size = n) :
    (loadVar ty ⟨g, off, none⟩).run P w = .ok (.agg cs) w := by
  have hl : (loadCells ⟨g, off, none⟩ cs.toList.length).run P w = .ok cs.toList.toArray w :=
    run_loadCells_list (P := P) w ⟨g, off, none⟩ cs.toList (fun j v hv => by
      rw [add_lit']
      exact hcell j v (by simpa using hv))
  simp only [Array.length_toList, Array.toArray_toList, hn] at hl
  simp only [loadVar, Sem.run_bind, S.agg, S.sizeOf, Result.andThen_ok, if_true, hl, Sem.run_pure]
theorem wpList_loadAt {ops : Array Oper} {rest : List Oper} {o : Oper} {a : Act} {Q : Exit → Act → World → Prop} (hgd : o.guard = none) (ty : TypeId) (x : Operand) (ho : o.op = .load ty x)
    (g off : Nat) (hx : a.eval x = .pointer (some ⟨g, off, none⟩)) (cs : Array Value) (hcell : ∀ (j : Nat) u, cs[j]? = some u → w.cell? ⟨g, off + j, none⟩ = some u) {n : Nat} (S : Str P ty n) (hn : cs.size = n)
    (h : wpList P ops Q rest (a.put o.dst (.agg cs)) w) : wpList P ops Q (o :: rest) a w := by
  refine wpList_plain hgd fun K hK => ?_
  unfold Oper.wp execOp
  simp only [ho, hx, Instr.loadAt, Instr.sureAddr, Sem.run_bind, Sem.run_pure, Result.andThen_ok, run_loadVar_at g off cs ty hcell S hn]
  exact hK _ _ h

/-- A guarded operation that is wanted. -/
theorem wpList_g {ops : Array Oper} {rest : List Oper} {o : Oper} {a : Act} {Q : Exit → Act → World → Prop} (hw : Region.wanted o (yielded ops a.tmps) = true)
    (h : ∀ K : Act → World → Prop, (∀ a w, wpList P ops Q rest a w → K a w) → o.wp P a w K Q) : wpList P ops Q (o :: rest) a w := by
  rw [wpList, if_pos hw]
  exact .inl (h _ fun _ _ h => h)
theorem wlG {ops : Array Oper} {rest : List Oper} {o : Oper} {a : Act} {Q : Exit → Act → World → Prop} (hw : Region.wanted o (yielded ops a.tmps) = true) (ty : TypeId) (x : Operand) (ho : o.op = .load ty x)
    (g off : Nat) (hx : a.eval x = .pointer (some ⟨g, off, none⟩)) (cs : Array Value) (hcell : ∀ (j : Nat) u, cs[j]? = some u → w.cell? ⟨g, off + j, none⟩ = some u) {n : Nat} (S : Str P ty n) (hn : cs.size = n)
    (h : wpList P ops Q rest (a.put o.dst (.agg cs)) w) : wpList P ops Q (o :: rest) a w := by
  refine wpList_g hw fun K hK => ?_
  unfold Oper.wp execOp
  simp only [ho, hx, Instr.loadAt, Instr.sureAddr, Sem.run_bind, Sem.run_pure, Result.andThen_ok, run_loadVar_at g off cs ty hcell S hn]
  exact hK _ _ h
theorem slG {ops : Array Oper} {rest : List Oper} {o : Oper} {a : Act} {Q : Exit → Act → World → Prop} (ty : TypeId) (x : Operand) (_ : o.op = .load ty x) (h : Stop (wpList P ops Q (o :: rest) a w)) : wpList P ops Q (o :: rest) a w := h
theorem Blk.all {g : Nat} {cs : Array Value} (h : Blk w g cs) (j : Nat) (u : Value) (hu : cs[j]? = some u) : w.cell? ⟨g, 0 + j, none⟩ = some u := by rw [Nat.zero_add]; exact h.cell hu
def putAt (cs : Array Value) (j : Nat) : List Value → Array Value
  | [] => cs
  | v :: r => putAt (cs.setIfInBounds j v) (j + 1) r
theorem putAt_size : ∀ (vs : List Value) (cs : Array Value) (j : Nat), (putAt cs j vs).size = cs.size
  | [], _, _ => rfl
  | v :: r, cs, j => by rw [putAt, putAt_size r]; simp
theorem putAt_far : ∀ (vs : List Value) (cs : Array Value) (j k : Nat), k < j ∨ j + vs.length ≤ k → (putAt cs j vs)[k]? = cs[k]?
  | [], _, _, _, _ => rfl
  | v :: r, cs, j, k, h => by
    simp only [List.length_cons] at h
    rw [putAt, putAt_far r _ _ _ (by omega), Array.getElem?_setIfInBounds_ne (by omega)]
theorem putAt_in : ∀ (vs : List Value) (cs : Array Value) (j i : Nat), j + vs.length ≤ cs.size → i < vs.length → (putAt cs j vs)[j + i]? = vs[i]?
  | [], _, _, _, _, h => by simp at h
  | v :: r, cs, j, 0, hs, _ => by
    simp only [List.length_cons] at hs
    rw [putAt, putAt_far r _ _ _ (by omega), Nat.add_zero, Array.getElem?_setIfInBounds_self_of_lt (by omega)]; rfl
  | v :: r, cs, j, i + 1, hs, h => by
    simp only [List.length_cons] at hs h
    have := putAt_in r (cs.setIfInBounds j v) (j + 1) i (by simp; omega) (by omega)
    rw [putAt, show j + (i + 1) = j + 1 + i by omega, this]; rfl
theorem run_storeCells_at (g off : Nat) : ∀ (vs : List Value) (i : Nat) (cs : Array Value) (w : World), Blk w g cs → off + i + vs.length ≤ cs.size → (∀ v ∈ vs, v.oneCell' = true) →
    ∃ w', (storeCells ⟨g, off, none⟩ vs i).run P w = .ok () w' ∧ Blk w' g (putAt cs (off + i) vs) ∧ Kept (some g) w.heap.size w w'
  | [], i, cs, w, hb, _, _ => ⟨w, rfl, hb, Kept.refl _ _ _⟩
  | v :: r, i, cs, w, hb, hl, h1 => by
    simp only [List.length_cons] at hl
    have hi : off + i < cs.size := by omega
    have hcell : w.cell? ⟨g, off + i, none⟩ = some cs[off + i] := hb.cell (by simp [hi])
    have hfro := hb.frozen (off + i)
    have hst : (store ((⟨g, off, none⟩ : Addr).add i) v).run P w = .ok () (w.setCell ⟨g, off + i, none⟩ v) := by
      rw [add_lit', run_store P w _ v _ (h1 v (by simp)), hcell]
      simp [hfro]
    obtain ⟨w', hr, hb', hk⟩ := run_storeCells_at g off r (i + 1) _ _ (hb.store (off + i) v) (by simp; omega) (fun x hx => h1 x (by simp [hx]))
    have k1 : Kept (some g) w.heap.size w (w.setCell ⟨g, off + i, none⟩ v) := Kept.setCell (q := ⟨g, off + i, none⟩) (Kept.refl (some g) _ w) (.inr rfl) v
    refine ⟨w', ?_, hb', k1.trans ?_⟩
    · simp only [storeCells, Sem.run_bind, hst, Result.andThen_ok, hr]
    · simpa [World.setCell] using hk
theorem wpList_storeAt {ops : Array Oper} {rest : List Oper} {o : Oper} {a : Act} {Q : Exit → Act → World → Prop} (hgd : o.guard = none) (ty : TypeId) (x y : Operand) (ho : o.op = .store ty x y)
    (g off : Nat) (cells : Array Value) (hx : a.eval x = .pointer (some ⟨g, off, none⟩)) (hy : a.eval y = .agg cells) (old : Array Value) (hb : Blk w g old) {n : Nat} (S : Str P ty n) (hn : cells.size = n)
    (hold : off + cells.size ≤ old.size) (h1 : ∀ v ∈ cells.toList, v.oneCell' = true)
    (h : ∀ w', Blk w' g (putAt old off cells.toList) → Kept (some g) w.heap.size w w' → wpList P ops Q rest (a.put o.dst undef) w') : wpList P ops Q (o :: rest) a w := by
  refine wpList_plain hgd fun K hK => ?_
  obtain ⟨w', hr, hb', hk⟩ := run_storeCells_at (P := P) g off cells.toList 0 old w hb (by simpa using hold) h1
  have hs : (storeVar ty ⟨g, off, none⟩ (.agg cells)).run P w = .ok () w' := by
    simp only [storeVar, Sem.run_bind, S.sizeOf, Result.andThen_ok, Value.cells, hn, ne_eq, not_true_eq_false, if_false, hr]
  unfold Oper.wp execOp
  simp only [ho, hx, hy, Instr.storeAt, Instr.sureAddr, Sem.run_bind, Sem.run_pure, Result.andThen_ok, hs]
  exact hK _ _ (h w' hb' hk)
theorem run_index_agg {T elem : TypeId} {len n : Nat} (hT : P.underlying T = some (.array len elem)) (S : Str P elem n) (cs : Array Value) (k : Nat) (hk : k < len) (w : World) :
    (Instr.index T (.agg cs) (.int .i64 k)).run P w = .ok (.agg (cs.extract (k * n) (k * n + n))) w := by
  simp [Instr.index, asIntOf, run_underlying hT, S.sizeOf, part, S.agg, Sem.run_bind, hk]
end
theorem farr_extract {f : List Val} {k : Nat} (h : k < f.length) : (farr f).extract (k * 3) (k * 3 + 3) = #[.int .i64 f[k].kind, .int .i64 f[k].n, .string (str f[k].s)] := by
  obtain ⟨h0, h1, h2⟩ := farr_get h
  have hs := farr_size f
  apply Array.ext_getElem?
  intro i
  rw [Array.getElem?_extract]
  rcases i with _ | _ | _ | i
  · simp [h0]; omega
  · simp [h1]; omega
  · simp [h2]; omega
  · simp; omega
theorem strV : Str Tryz.prog 36 3 := ⟨⟨_, Tryz.underlying36, rfl⟩, by kernel_rfl⟩
theorem strF : Str Tryz.prog 37 24 := ⟨⟨_, Tryz.underlying37, rfl⟩, by kernel_rfl⟩
theorem strP : Str Tryz.prog 39 26 := ⟨⟨_, Tryz.underlying39, rfl⟩, by kernel_rfl⟩
theorem index_farr {f : List Val} (hf : f.length = 8) (k : Nat) (hk : k < 8) (w : World) :
    (Instr.index 37 (.agg (farr f)) (.int .i64 k)).run Tryz.prog w = .ok (.agg #[.int .i64 (f[k]'(by omega)).kind, .int .i64 (f[k]'(by omega)).n, .string (str (f[k]'(by omega)).s)]) w := by
  rw [run_index_agg Tryz.underlying37 strV (farr f) k hk w, farr_extract (by omega)]

/-! Equality. -/
def eqF (d : Nat) (xs ys : Array Value) : List (Bool × TypeId × Nat) → Sem Bool
  | [] => pure true
  | (b, t, off) :: r => if b = false then do
      let a ← part t xs off
      let c ← part t ys off
      let q ← Op.equalIn d t a c
      if (!q) = true then pure false else eqF d xs ys r
    else eqF d xs ys r
theorem eqFields_eqF (d : Nat) (xs ys : Array Value) : ∀ fs : List Field, Op.eqFields d xs ys fs = eqF d xs ys (fs.map fun f => (f.name == "_", f.type, f.offset))
  | [] => rfl
  | f :: fs => by
    rw [List.map_cons, eqF, Op.eqFields, eqFields_eqF d xs ys fs]
    by_cases h : f.name = "_"
    · simp [h]
    · have h' : (f.name == "_") = false := by simpa using h
      simp [h, h']
section
variable {P : Program} {w : World}
theorem part_agg {ty : TypeId} {n : Nat} (S : Str P ty n) (xs : Array Value) (off : Nat) : (part ty xs off).run P w = .ok (.agg (xs.extract off (off + n))) w := by
  simp [part, S.agg, S.sizeOf, Sem.run_bind]
theorem eqF_nil (d : Nat) (xs ys : Array Value) : (eqF d xs ys []).run P w = .ok true w := by simp [eqF]
theorem eqF_cons (d : Nat) (xs ys : Array Value) (t : TypeId) (off : Nat) (r : List (Bool × TypeId × Nat)) {a b : Value} {p q : Bool} (ha : (part t xs off).run P w = .ok a w) (hb : (part t ys off).run P w = .ok b w)
    (he : (Op.equalIn d t a b).run P w = .ok p w) (hr : (eqF d xs ys r).run P w = .ok q w) : (eqF d xs ys ((false, t, off) :: r)).run P w = .ok (p && q) w := by
  simp only [eqF, if_true, Sem.run_bind, ha, hb, he, Result.andThen_ok, Sem.run_ite, hr, Sem.run_pure]
  cases p <;> simp
theorem eqS (d : Nat) {t : TypeId} (xs ys : Array Value) (l : List (Bool × TypeId × Nat)) (ht : P.underlying t = some (.struct (P.fieldsOf t))) (hp : P.stoodInHeld t = false) (hl : (P.fieldsOf t).toList.map (fun f => (f.name == "_", f.type, f.offset)) = l)
    {q : Bool} (h : (eqF d xs ys l).run P w = .ok q w) : (Op.equalIn (d + 1) t (.agg xs) (.agg ys)).run P w = .ok q w := by
  rw [run_equalIn_struct w d t xs ys ht hp, eqFields_eqF, hl, h]
end
theorem plain3 : Tryz.prog.plainKey 3 = true := by kernel_rfl
theorem plainS : Tryz.prog.plainKey 9 = true := by kernel_rfl
theorem plain32 : Tryz.prog.plainKey 34 = true := by kernel_rfl
abbrev Val.c3 (x : Val) : Array Value := #[.int .i64 x.kind, .int .i64 x.n, .string (str x.s)]
theorem f_val : (Tryz.prog.fieldsOf 36).toList.map (fun f => (f.name == "_", f.type, f.offset)) = [(false, 3, 0), (false, 3, 1), (false, 9, 2)] := by kernel_rfl
theorem u_val : Tryz.prog.underlying 36 = some (.struct (Tryz.prog.fieldsOf 36)) := by kernel_rfl
theorem h_val : Tryz.prog.stoodInHeld 36 = false := by kernel_rfl
set_option maxRecDepth 100000 in
theorem eq_val (d : Nat) (x y : Val) (w : World) : (Op.equalIn (d + 2) 36 (.agg x.c3) (.agg y.c3)).run Tryz.prog w = .ok (decide (x = y)) w := by
  have h : (eqF (d + 1) x.c3 y.c3 [(false, 3, 0), (false, 3, 1), (false, 9, 2)]).run Tryz.prog w = .ok (x.kind == y.kind && (x.n == y.n && ((str x.s).toList == (str y.s).toList && true))) w :=
    eqF_cons _ _ _ _ _ _ (run_part_plain w plain3 rfl) (run_part_plain w plain3 rfl) (run_equalIn_int w d _ _ _ _ _ Tryz.underlying3)
    (eqF_cons _ _ _ _ _ _ (run_part_plain w plain3 rfl) (run_part_plain w plain3 rfl) (run_equalIn_int w d _ _ _ _ _ Tryz.underlying3)
      (eqF_cons _ _ _ _ _ _ (run_part_plain w plainS rfl) (run_part_plain w plainS rfl) (run_equalIn_string w d _ _ _ Tryz.underlying9) (eqF_nil _ _ _)))
  rw [eqS (d + 1) _ _ _ u_val h_val f_val h]
  congr 1
  rw [Bool.eq_iff_iff]
  obtain ⟨a, b, c⟩ := x
  obtain ⟨a', b', c'⟩ := y
  simp
set_option maxRecDepth 100000 in
theorem eq_items {f g : List Val} (hf : f.length = 8) (hg : g.length = 8) (d : Nat) (w : World) : ∀ l : List Nat, (∀ i ∈ l, i < 8) →
    (Op.eqItems (d + 2) 36 (Tryz.prog.cellsOf 36) (farr f) (farr g) l).run Tryz.prog w = .ok (l.all fun i => decide (f[i]? = g[i]?)) w
  | [], _ => by simp [Op.eqItems]
  | i :: l, h => by
    have hi := h i (List.mem_cons_self ..)
    have hc : Tryz.prog.cellsOf 36 = 3 := by kernel_rfl
    have ih := eq_items hf hg d w l (fun j hj => h j (List.mem_cons_of_mem _ hj))
    rw [hc] at ih ⊢
    have p1 := part_agg (P := Tryz.prog) (w := w) strV (farr f) (i * 3)
    have p2 := part_agg (P := Tryz.prog) (w := w) strV (farr g) (i * 3)
    rw [farr_extract (by omega)] at p1 p2
    have e := eq_val d (f[i]'(by omega)) (g[i]'(by omega)) w
    simp only [Op.eqItems, Sem.run_bind, p1, p2, Result.andThen_ok, e, Sem.run_ite, ih, Sem.run_pure, List.all_cons]
    rw [List.getElem?_eq_getElem (show i < f.length by omega), List.getElem?_eq_getElem (show i < g.length by omega)]
    by_cases hx : f[i]'(by omega) = g[i]'(by omega) <;> simp [hx]
set_option maxRecDepth 100000 in
theorem eq_farr {f g : List Val} (hf : f.length = 8) (hg : g.length = 8) (d : Nat) (w : World) :
    (Op.equalIn (d + 3) 37 (.agg (farr f)) (.agg (farr g))).run Tryz.prog w = .ok (decide (f = g)) w := by
  obtain ⟨i, hi⟩ : ∃ i, Tryz.prog.info? 36 = some i := by
    have := strV.size
    cases h : Tryz.prog.info? 36 with
    | none => rw [h] at this; cases this
    | some i => exact ⟨i, rfl⟩
  rw [run_equalIn_array w (d + 2) _ _ Tryz.underlying37 hi, eq_items hf hg d w _ (fun i hi => List.mem_range.1 hi)]
  congr 1
  rw [Bool.eq_iff_iff]
  simp only [List.all_eq_true, List.mem_range, decide_eq_true_eq]
  refine ⟨fun h => List.ext_getElem? fun i => ?_, fun h i _ => by rw [h]⟩
  by_cases hi : i < 8
  · exact h i hi
  · rw [List.getElem?_eq_none (by omega), List.getElem?_eq_none (by omega)]
theorem Card.arr_extract {c : Card} (hf : c.f.length = 8) : c.arr.extract 3 (3 + 24) = farr c.f := by
  have h1 := c.arr_size
  have h2 := farr_size c.f
  apply Array.ext_getElem?
  intro i
  rw [Array.getElem?_extract]
  by_cases hi : i < 24
  · rw [if_pos (by omega), Card.arr_tail]
  · rw [if_neg (by omega), Array.getElem?_eq_none (by omega)]
theorem Patch.arr_extract {c : Patch} (hf : c.f.length = 8) : c.arr.extract 2 (2 + 24) = farr c.f := by
  have h1 := c.arr_size
  have h2 := farr_size c.f
  apply Array.ext_getElem?
  intro i
  rw [Array.getElem?_extract]
  by_cases hi : i < 24
  · rw [if_pos (by omega), Patch.arr_tail]
  · rw [if_neg (by omega), Array.getElem?_eq_none (by omega)]
theorem f_patch : (Tryz.prog.fieldsOf 39).toList.map (fun f => (f.name == "_", f.type, f.offset)) = [(false, 34, 0), (false, 34, 1), (false, 37, 2)] := by kernel_rfl
theorem u_patch : Tryz.prog.underlying 39 = some (.struct (Tryz.prog.fieldsOf 39)) := by kernel_rfl
theorem h_patch : Tryz.prog.stoodInHeld 39 = false := by kernel_rfl
set_option maxRecDepth 100000 in
theorem eq_patch {x y : Patch} (hf : x.f.length = 8) (hg : y.f.length = 8) (d : Nat) (w : World) : (Op.equalIn (d + 4) 39 (.agg x.arr) (.agg y.arr)).run Tryz.prog w = .ok (decide (x = y)) w := by
  obtain ⟨x0, x1⟩ := x.arr_head
  obtain ⟨y0, y1⟩ := y.arr_head
  have px := part_agg (P := Tryz.prog) (w := w) strF x.arr 2
  have py := part_agg (P := Tryz.prog) (w := w) strF y.arr 2
  rw [Patch.arr_extract (by assumption)] at px py
  have h : (eqF (d + 3) x.arr y.arr [(false, 34, 0), (false, 34, 1), (false, 37, 2)]).run Tryz.prog w = .ok ((x.mask : Int) == (y.mask : Int) && ((x.lab : Int) == (y.lab : Int) && (decide (x.f = y.f) && true))) w :=
    eqF_cons _ _ _ _ _ _ (run_part_plain w plain32 x0) (run_part_plain w plain32 y0) (run_equalIn_int w _ _ _ _ _ _ Tryz.underlying34)
    (eqF_cons _ _ _ _ _ _ (run_part_plain w plain32 x1) (run_part_plain w plain32 y1) (run_equalIn_int w _ _ _ _ _ _ Tryz.underlying34)
      (eqF_cons _ _ _ _ _ _ px py (eq_farr hf hg d w) (eqF_nil _ _ _)))
  rw [eqS (d + 3) _ _ _ u_patch h_patch f_patch h]
  congr 1
  rw [Bool.eq_iff_iff]
  obtain ⟨a, b, e⟩ := x
  obtain ⟨a', b', e'⟩ := y
  simp only [Bool.and_eq_true, beq_iff_eq, decide_eq_true_eq, and_true, Patch.mk.injEq]
  exact ⟨fun ⟨h1, h2, h3⟩ => ⟨by omega, by omega, h3⟩, fun ⟨h1, h2, h3⟩ => ⟨by omega, by omega, h3⟩⟩
end Go.Proofs.YtiedkcijjfmhaaaGreatDoor
namespace Go.Proofs.YtiedkcijjfmhaaaGreatDoor
open Go.RowKit

def longF (f : List Val) : Bool := f.any fun x => decide (200 < x.s.length)
def vals (f : List Val) : Bool := f.all Val.ok
def Card.ok (c : Card) : Bool := decide (1 ≤ c.id) && decide (c.id < 1073741824) && decide (1 ≤ c.ver) && decide (c.ver ≤ 1099511627776) && decide (c.lab < 65536) && vals c.f
/-! The program's. -/
end Go.Proofs.YtiedkcijjfmhaaaGreatDoor
namespace Go.Proofs.YtiedkcijjfmhaaaGreatDoor

/-- l begins with n trees, r stands behind them; d: how deep the deepest is. -/
inductive Trees : Nat → List Node → List Node → Nat → Prop
  | nil (l : List Node) : Trees 0 l l 0
  | cons {x : Node} {l m r : List Node} {n d1 d2 : Nat} : Trees (parts x.op).toNat l m d1 → Trees n m r d2 → Trees (n + 1) (x :: l) r (max (d1 + 1) d2)

theorem parts_toNat (op : Int) : ((parts op).toNat : Int) = parts op := by have := parts_bd op; omega
theorem Trees.length {n : Nat} {l r : List Node} {d : Nat} (h : Trees n l r d) : r.length + n ≤ l.length := by
  induction h with
  | nil l => simp
  | cons _ _ h1 h2 => simp only [List.length_cons]; omega
theorem Trees.zero {l r : List Node} {d : Nat} (h : Trees 0 l r d) : l = r ∧ d = 0 := by cases h; exact ⟨rfl, rfl⟩
theorem Trees.depth_pos {n : Nat} {l r : List Node} {d : Nat} (h : Trees n l r d) : n = 0 ∨ 1 ≤ d := by
  cases h with
  | nil l => exact .inl rfl
  | cons _ _ => right; omega
theorem Trees.append {n k : Nat} {l m r : List Node} {d1 d2 : Nat} (h : Trees n l m d1) : Trees k m r d2 → Trees (n + k) l r (max d1 d2) := by
  induction h generalizing k r d2 with
  | nil l => intro h; simpa using h
  | cons t1 _ _ ih2 =>
    intro h
    have := Trees.cons t1 (ih2 h)
    rw [← Nat.max_assoc] at this
    rw [Nat.add_right_comm]
    exact this
theorem Trees.split {k : Nat} : ∀ {n : Nat} {l r : List Node} {d : Nat}, Trees (n + k) l r d → ∃ m d1 d2, Trees n l m d1 ∧ Trees k m r d2 ∧ d = max d1 d2
  | 0, l, r, d, h => ⟨l, 0, d, .nil l, by simpa using h, by simp⟩
  | n + 1, l, r, d, h => by
    rw [Nat.add_right_comm] at h
    cases h with
    | cons t1 t2 =>
      obtain ⟨m, e1, e2, h1, h2, rfl⟩ := Trees.split t2
      exact ⟨m, _, e2, .cons t1 h1, h2, (Nat.max_assoc ..).symm⟩
/-- What stands behind does not matter. -/
theorem Trees.behind {n : Nat} {l r : List Node} {d : Nat} (h : Trees n l r d) : ∃ p, l = p ++ r ∧ ∀ q, Trees n (p ++ q) q d := by
  induction h with
  | nil l => exact ⟨[], rfl, fun q => .nil q⟩
  | @cons x l m r n d1 d2 _ _ h1 h2 =>
    obtain ⟨p1, rfl, g1⟩ := h1
    obtain ⟨p2, rfl, g2⟩ := h2
    exact ⟨x :: (p1 ++ p2), by simp, fun q => by
      have := Trees.cons (x := x) (g1 (p2 ++ q)) (g2 q)
      simpa using this⟩
theorem endFrom_pass {n : Nat} {l r : List Node} {d : Nat} (h : Trees n l r d) : ∀ (k i : Nat), 1 ≤ k → endFrom l ((n + k : Nat) : Int) i = endFrom r k (i + (l.length - r.length)) := by
  induction h with
  | nil l => intro k i hk; simp
  | @cons x l m r n d1 d2 t1 t2 h1 h2 =>
    intro k i hk
    have hl1 := t1.length
    have hl2 := t2.length
    have hp := parts_toNat x.op
    show (if ((n + 1 + k : Nat) : Int) + (parts x.op - 1) = 0 then _ else _) = _
    rw [if_neg (by omega), show ((n + 1 + k : Nat) : Int) + (parts x.op - 1) = (((parts x.op).toNat + (n + k) : Nat) : Int) by omega, h1 (n + k) (i + 1) (by omega), h2 k _ hk]
    congr 1
    simp only [List.length_cons]; omega
theorem endFrom_trees {n : Nat} {l r : List Node} {d : Nat} (h : Trees n l r d) : ∀ (i : Nat), 1 ≤ n → endFrom l (n : Int) i = ((i + (l.length - r.length) : Nat) : Int) := by
  induction h with
  | nil l => intro i hk; omega
  | @cons x l m r n d1 d2 t1 t2 h1 h2 =>
    intro i _
    have hl1 := t1.length
    have hl2 := t2.length
    have hp := parts_toNat x.op
    show (if ((n + 1 : Nat) : Int) + (parts x.op - 1) = 0 then _ else _) = _
    by_cases hz : ((n + 1 : Nat) : Int) + (parts x.op - 1) = 0
    · rw [if_pos hz]
      have hn : n = 0 := by omega
      have hp0 : (parts x.op).toNat = 0 := by omega
      subst hn
      rw [hp0] at t1
      obtain ⟨rfl, _⟩ := t1.zero
      obtain ⟨rfl, _⟩ := t2.zero
      simp only [List.length_cons]; omega
    · rw [if_neg hz]
      rcases Nat.eq_zero_or_pos n with rfl | hn
      · obtain ⟨rfl, _⟩ := t2.zero
        rw [show ((0 + 1 : Nat) : Int) + (parts x.op - 1) = (((parts x.op).toNat : Nat) : Int) by omega, h1 (i + 1) (by omega)]
        simp only [List.length_cons]; omega
      · rw [show ((n + 1 : Nat) : Int) + (parts x.op - 1) = (((parts x.op).toNat + n : Nat) : Int) by omega, endFrom_pass t1 n (i + 1) hn, h2 _ hn]
        simp only [List.length_cons]; omega
theorem trees_of_end : ∀ (l : List Node) (n i : Nat) (e : Int), 1 ≤ n → endFrom l (n : Int) i = e → e ≠ -1 → ∃ r d, Trees n l r d
  | [], n, i, e, _, h, he => absurd h.symm he
  | x :: l, n, i, e, hn, h, he => by
    have hp := parts_toNat x.op
    have hpb := parts_bd x.op
    have h' : (if (n : Int) + (parts x.op - 1) = 0 then (i : Int) + 1 else endFrom l (n + (parts x.op - 1)) (i + 1)) = e := h
    obtain ⟨n, rfl⟩ : ∃ m, n = m + 1 := ⟨n - 1, by omega⟩
    by_cases hz : ((n + 1 : Nat) : Int) + (parts x.op - 1) = 0
    · have hn : n = 0 := by omega
      have hp0 : (parts x.op).toNat = 0 := by omega
      subst hn
      exact ⟨l, _, .cons (by rw [hp0]; exact .nil l) (.nil l)⟩
    · rw [if_neg hz, show ((n + 1 : Nat) : Int) + (parts x.op - 1) = (((parts x.op).toNat + n : Nat) : Int) by omega] at h'
      obtain ⟨r, d, ht⟩ := trees_of_end l _ (i + 1) e (by omega) h' he
      obtain ⟨m, d1, d2, t1, t2, rfl⟩ := ht.split
      exact ⟨r, _, .cons t1 t2⟩
/-- A list that is one tree. -/
def Tree (l : List Node) (d : Nat) : Prop := Trees 1 l [] d
theorem Tree.ne {l : List Node} {d : Nat} (h : Tree l d) : 1 ≤ l.length := by have := Trees.length h; simpa using this
theorem Tree.pos {l : List Node} {d : Nat} (h : Tree l d) : 1 ≤ d := (Trees.depth_pos h).resolve_left (by omega)
theorem endAt_tree {l : List Node} {d : Nat} (h : Tree l d) : endAt l 0 = l.length := by
  have := endFrom_trees h 0 (Nat.le_refl _)
  rw [show (0 : Int) = ((0 : Nat) : Int) from rfl, endAt_nat]
  simpa using this
theorem tree_of_end {l : List Node} (_hl : l ≠ []) (h : endAt l 0 = l.length) : ∃ d, Tree l d := by
  rw [show (0 : Int) = ((0 : Nat) : Int) from rfl, endAt_nat] at h
  obtain ⟨r, d, ht⟩ := trees_of_end _ 1 0 _ (Nat.le_refl _) h (by omega)
  simp only [List.drop_zero] at ht h
  have := endFrom_trees ht 0 (Nat.le_refl _)
  have h1 : endFrom l (1 : Int) 0 = l.length := h
  have h2 : endFrom l (1 : Int) 0 = ((0 + (l.length - r.length) : Nat) : Int) := this
  have hlen := ht.length
  have hr : r.length = 0 := by omega
  rw [List.eq_nil_of_length_eq_zero hr] at ht
  exact ⟨d, ht⟩
theorem Tree.head {l : List Node} {d : Nat} (h : Tree l d) : ∃ x r d', l = x :: r ∧ Trees (parts x.op).toNat r [] d' ∧ d = d' + 1 := by
  unfold Tree at h
  cases h with
  | cons t1 t2 =>
    obtain ⟨rfl, rfl⟩ := t2.zero
    exact ⟨_, _, _, rfl, t1, by omega⟩
/-! What trees are cut into. -/
def cut : Nat → List Node → List (List Node)
  | 0, _ => []
  | n + 1, l => l.take (endFrom l 1 0).toNat :: cut n (l.drop (endFrom l 1 0).toNat)
theorem cut_trees : ∀ {n : Nat} {l r : List Node} {d : Nat}, Trees n l r d → (cut n l).length = n ∧ l = (cut n l).flatten ++ r ∧ (∀ k ∈ cut n l, ∃ dk, Tree k dk ∧ dk ≤ d)
  | 0, l, r, d, h => by obtain ⟨rfl, _⟩ := h.zero; simp [cut]
  | n + 1, l, r, d, h => by
    rw [Nat.add_comm] at h
    obtain ⟨m, d1, d2, t1, t2, rfl⟩ := h.split
    have he := endFrom_trees t1 0 (Nat.le_refl _)
    obtain ⟨p, rfl, hp⟩ := t1.behind
    have he' : endFrom (p ++ m) 1 0 = (p.length : Int) := by
      have : ((1 : Nat) : Int) = 1 := rfl
      rw [this] at he
      rw [he]; simp
    obtain ⟨g1, g2, g3⟩ := cut_trees t2
    have hc : cut (n + 1) (p ++ m) = p :: cut n m := by simp [cut, he']
    rw [hc]
    refine ⟨by simp [g1], by rw [List.flatten_cons, List.append_assoc, ← g2], fun k hk => ?_⟩
    rcases List.mem_cons.1 hk with rfl | hk
    · exact ⟨d1, by have := hp []; simpa [Tree] using this, by omega⟩
    · obtain ⟨dk, h1, h2⟩ := g3 k hk
      exact ⟨dk, h1, by omega⟩

/-- One tree more is cut off at a place. -/
theorem cut_step {l : List Node} {n i : Nat} {r : List Node} {d : Nat} (h : Trees (n + 1) (l.drop i) r d) :
    ∃ s d1 d2, 1 ≤ s ∧ i + s ≤ l.length ∧ endAt l i = ((i + s : Nat) : Int) ∧ cut (n + 1) (l.drop i) = (l.drop i).take s :: cut n (l.drop (i + s)) ∧ Trees n (l.drop (i + s)) r d1 ∧ Tree ((l.drop i).take s) d2 := by
  rw [Nat.add_comm] at h
  obtain ⟨m, d1, d2, t1, t2, rfl⟩ := h.split
  have he0 := endFrom_trees t1 0 (Nat.le_refl _)
  have hei := endFrom_trees t1 i (Nat.le_refl _)
  obtain ⟨p, hp, hpq⟩ := t1.behind
  have hlen := t1.length
  have hpl : (l.drop i).length = p.length + m.length := by rw [hp]; simp
  have hs : (endFrom (l.drop i) 1 0).toNat = p.length := by
    have : ((1 : Nat) : Int) = 1 := rfl
    rw [this] at he0
    rw [he0]; omega
  have hd : (l.drop i).drop p.length = m := by rw [hp]; simp
  have ht : (l.drop i).take p.length = p := by rw [hp]; simp
  rw [List.length_drop] at hpl hlen
  refine ⟨p.length, d2, d1, by omega, by omega, ?_, ?_, ?_, ?_⟩
  · rw [endAt_nat]
    have : ((1 : Nat) : Int) = 1 := rfl
    rw [this] at hei
    rw [hei, List.length_drop]; omega
  · simp only [cut, hs]
    rw [List.drop_drop]
  · rw [← List.drop_drop, hd]; exact t2
  · rw [ht]; have := hpq []; simpa [Tree] using this
/-! How deep: by the places that are open. -/
def dec : List Int → List Int
  | [] => []
  | x :: s => if x - 1 = 0 then dec s else (x - 1) :: s
def push (p : Int) (s : List Int) : List Int := if p = 0 then dec s else p :: s
def norm : List Int → List Int
  | [] => []
  | x :: s => if x = 0 then dec s else x :: s
theorem norm_zero (s : List Int) : norm (0 :: s) = dec s := by simp [norm]
theorem dec_norm (y : Int) (s : List Int) : dec (y :: s) = norm ((y - 1) :: s) := rfl
theorem norm_keep {x : Int} {s : List Int} (h : x ≠ 0) : norm (x :: s) = x :: s := by simp [norm, h]
def deepFold : List Node → List Int → Int → Int
  | [], _, d => d
  | x :: r, s, d => deepFold r (push (parts x.op) s) (max d (s.length + 1))
theorem deepFold_trees {n : Nat} {l r : List Node} {d : Nat} (h : Trees n l r d) : ∀ (t : Int) (s : List Int) (deep : Int), 0 ≤ deep → (n : Int) ≤ t → 1 ≤ t →
    deepFold l (t :: s) deep = deepFold r (if n = 0 then t :: s else push (t - n) s) (if n = 0 then deep else max deep ((s.length : Int) + 1 + d)) := by
  induction h with
  | nil l => intro t s deep _ _ _; simp
  | @cons x l m r n d1 d2 t1 t2 h1 h2 =>
    intro t s deep hd ht ht1
    have hp := parts_toNat x.op
    have hnext : deepFold (x :: l) (t :: s) deep = deepFold m (push (t - 1) s) (max deep ((s.length : Int) + 1 + (d1 + 1 : Nat))) := by
      show deepFold l (push (parts x.op) (t :: s)) (max deep (((t :: s).length : Int) + 1)) = _
      rw [← hp]
      rcases Nat.eq_zero_or_pos (parts x.op).toNat with h0 | h0
      · rw [h0] at t1
        obtain ⟨rfl, rfl⟩ := t1.zero
        rw [h0]
        simp only [push, dec, List.length_cons]
        congr 1
      · have e1 : push (((parts x.op).toNat : Nat) : Int) (t :: s) = ((parts x.op).toNat : Int) :: t :: s := by unfold push; rw [if_neg (by omega)]
        rw [e1, h1 _ (t :: s) _ (by omega) (Int.le_refl _) (by omega), if_neg (by omega), if_neg (by omega)]
        have e2 : push (((parts x.op).toNat : Int) - ((parts x.op).toNat : Nat)) (t :: s) = push (t - 1) s := by
          rw [Int.sub_self]; simp only [push, dec, if_true]
        rw [e2]
        congr 1
        simp only [List.length_cons]; omega
    rw [hnext]
    rcases Nat.eq_zero_or_pos n with rfl | hn
    · obtain ⟨rfl, rfl⟩ := t2.zero
      rw [if_neg (by omega), if_neg (by omega)]
      first | rfl | (congr 1; done) | (congr 1; omega)
    · have e1 : push (t - 1) s = (t - 1) :: s := by unfold push; rw [if_neg (by omega)]
      rw [e1, h2 (t - 1) s _ (by omega) (by omega) (by omega), if_neg (by omega), if_neg (by omega), if_neg (by omega), if_neg (by omega)]
      have e2 : t - 1 - (n : Int) = t - ((n + 1 : Nat) : Int) := by omega
      rw [e2]
      congr 1
      omega
theorem deepFold_tree {l : List Node} {d : Nat} (h : Tree l d) : deepFold l [] 0 = d := by
  obtain ⟨x, r, d', rfl, t, rfl⟩ := h.head
  have hp := parts_toNat x.op
  show deepFold r (push (parts x.op) []) (max 0 ((([] : List Int).length : Int) + 1)) = _
  rw [← hp]
  rcases Nat.eq_zero_or_pos (parts x.op).toNat with h0 | h0
  · rw [h0] at t
    obtain ⟨rfl, rfl⟩ := t.zero
    simp only [deepFold, List.length_nil]; omega
  · have e1 : push (((parts x.op).toNat : Nat) : Int) [] = [((parts x.op).toNat : Int)] := by unfold push; rw [if_neg (by omega)]
    rw [e1, deepFold_trees t _ [] _ (by omega) (Int.le_refl _) (by omega)]
    simp only [deepFold, if_neg (show ¬ (parts x.op).toNat = 0 by omega), List.length_nil]
    omega
/-- How deep a filter is; 0 where it is none. -/
def depth (l : List Node) : Int := if l = [] ∨ endAt l 0 ≠ l.length then 0 else deepFold l [] 0
theorem depth_tree {l : List Node} {d : Nat} (h : Tree l d) : depth l = d := by
  unfold depth
  rw [if_neg (by
    rintro (rfl | h1)
    · have := h.ne; simp at this
    · exact h1 (endAt_tree h)), deepFold_tree h]
theorem depth_cut {n : Nat} {l r : List Node} {d : Nat} (h : Trees n l r d) : ∀ a : Int, 0 ≤ a → ((cut n l).map depth).foldl max a = max a d := by
  induction n generalizing l d with
  | zero => intro a ha; obtain ⟨rfl, rfl⟩ := h.zero; simp [cut]; omega
  | succ n ih =>
    intro a ha
    rw [Nat.add_comm] at h
    obtain ⟨m, d1, d2, t1, t2, rfl⟩ := h.split
    have he := endFrom_trees t1 0 (Nat.le_refl _)
    obtain ⟨p, rfl, hp⟩ := t1.behind
    have he' : endFrom (p ++ m) 1 0 = (p.length : Int) := by
      have : ((1 : Nat) : Int) = 1 := rfl
      rw [this] at he
      rw [he]; simp
    have hc : cut (n + 1) (p ++ m) = p :: cut n m := by simp [cut, he']
    have hd : depth p = d1 := depth_tree (by have := hp []; simpa [Tree] using this)
    rw [hc, List.map_cons, List.foldl_cons, hd, ih t2 _ (by omega)]
    omega
theorem flatten_len {α : Type} : ∀ (ks : List (List α)) (k : List α), k ∈ ks → k.length ≤ ks.flatten.length
  | [], _, h => by cases h
  | x :: r, k, h => by
    rw [List.flatten_cons, List.length_append]
    rcases List.mem_cons.1 h with rfl | h
    · omega
    · have := flatten_len r k h; omega
/-- What is wrong with a filter: 4 too long, 1 none, 5 too deep. -/
def check (l : List Node) : Int :=
  if 31 < l.length then 4 else if l.length = 0 ∨ endAt l 0 ≠ l.length then 1 else if (l.any fun x => !x.ok) = true then 1 else if 8 < depth l then 5 else 0
theorem depth_bd (l : List Node) : 0 ≤ depth l ∧ depth l ≤ l.length := by
  unfold depth
  by_cases h : l = [] ∨ endAt l 0 ≠ l.length
  · rw [if_pos h]; omega
  · rw [if_neg h]
    have h1 : l ≠ [] := fun e => h (.inl e)
    have h2 : endAt l 0 = l.length := Decidable.byContradiction fun e => h (.inr e)
    obtain ⟨d, ht⟩ := tree_of_end h1 h2
    rw [deepFold_tree ht]
    have key : ∀ {n : Nat} {l r : List Node} {d : Nat}, Trees n l r d → d + r.length ≤ l.length := by
      intro n l r d h
      induction h with
      | nil l => simp
      | @cons x l m r n d1 d2 t1 t2 h1 h2 =>
        have := t1.length
        have := t2.length
        simp only [List.length_cons]; omega
    have := key ht
    simp at this
    omega
def firstBad : List Node → Nat → Int
  | [], _ => -1
  | x :: r, i => if x.ok = true then firstBad r (i + 1) else i
theorem firstBad_any : ∀ (l : List Node) (i : Nat), decide (0 ≤ firstBad l i) = l.any fun x => !x.ok
  | [], i => rfl
  | x :: r, i => by
    unfold firstBad
    cases hx : x.ok
    · simp [hx]
    · simp [hx, firstBad_any r (i + 1)]
theorem firstBad_at (l : List Node) (k : Nat) (h : k < l.length) : firstBad (l.drop k) k = if (l[k]).ok = true then firstBad (l.drop (k+1)) (k+1) else (k : Int) := by
  rw [List.drop_eq_getElem_cons h]; rfl
end Go.Proofs.YtiedkcijjfmhaaaGreatDoor
namespace Go.Proofs.YtiedkcijjfmhaaaGreatDoor
open Go.RowKit

/-- next's end. -/
def RetNx (s : List UInt8) (most : Int) (w : World) (e : Ending) (w' : World) : Prop :=
  e = .returned (.tuple #[.int .i64 (nVal s most), .int .i64 (nLen s most), .int .i64 (nErr s most)]) ∧ w = w'
theorem RetNx.bad {s : List UInt8} {most : Int} {w : World} {e : Int} (h : nErr s most = e) (h0 : e ≠ 0) : RetNx s most w (.returned (.tuple #[.int .i64 0, .int .i64 0, .int .i64 e])) w := by
  refine ⟨?_, rfl⟩
  rw [nVal_bad (by omega), nLen_bad (by omega), h]; rfl

set_option maxHeartbeats 1000000 in
set_option maxRecDepth 4000 in
theorem c_ref01_next (s : List UInt8) (most : Int) (w : World) (hs : s.length ≤ 4294967296) : Calls Tryz.prog 31 #[.string (str s), .int .i64 most] w (RetNx s most w) := by
  go_enter Tryz.func31, Tryz.ntmps31
  go_wp2_with (fail)
  go_loop [7] (fun n => ∃ k acc : Nat, Hid (Peek s k acc) ∧ k ≤ 6 ∧ k ≤ s.length ∧ n = .int .i64 k) (fun n => 6 - (intOf n).toNat)
  case atStart => exact ⟨0, 0, Peek.start _, by omega, by omega, rfl⟩
  case round =>
    obtain ⟨k, acc, hp, hk6, hkl, rfl⟩ := hrel
    by_cases hgo : k < 6 ∧ ∃ h : k < s.length, 128 ≤ s[k].toNat
    · obtain ⟨hlt, hl, hc⟩ := hgo
      have hp2 := Lib.hid (hp.out.next hlt hl hc)
      have h1 : decide ((k : Int) < 6) = true := by simp; omega
      have h2 : decide (k < s.length) = true := by simp; omega
      have h3 : decide (s[k].toNat < 128) = false := by simp; omega
      clear hp
      go_wp2_with (fail)
      go_round
      case rel => exact ⟨k + 1, _, hp2.out, by omega, by omega, by go_num⟩
      case measure => simp [intOf]; omega
    · by_cases h6 : k = 6
      · subst h6
        have he : Hid (nErr s most = 3) := by show _ = _; rw [nErr_def, hp.out.full]; rfl
        clear hgo
        go_wp2_with (fail)
        go_ret3
        exact RetNx.bad he.out (by omega)
      · have hlt : k < 6 := by omega
        have h1 : decide ((k : Int) < 6) = true := by simp; omega
        have h1' : decide ((k : Int) = 6) = false := by simp; omega
        by_cases hl : k = s.length
        · have he : Hid (nErr s most = 2) := by show _ = _; rw [nErr_def, hp.out.short hlt hl]; rfl
          subst hl
          clear hgo
          go_wp2_with (fail)
          go_ret3
          exact RetNx.bad he.out (by omega)
        · have hl : k < s.length := by omega
          have hc : s[k].toNat < 128 := by
            rcases Nat.lt_or_ge s[k].toNat 128 with h | h
            · exact h
            · exact absurd ⟨hlt, hl, h⟩ hgo
          have h2 : decide (k < s.length) = true := by simp; omega
          have h3 : decide (s[k].toNat < 128) = true := by simp; omega
          have h2' : decide (k = s.length) = false := by simp; omega
          clear hgo
          by_cases hz : s[k].toNat = 0 ∧ 0 < k
          · have he : Hid (nErr s most = 3) := by show _ = _; rw [nErr_def, hp.out.zero hlt hl hz.1 hz.2]; rfl
            have h4 : decide (0 < k) = true := by simp; omega
            have h5 : ((s[k].toNat : Int) == 0) = true := by simp; omega
            clear hz
            go_wp2_with (fail)
            go_ret3
            exact RetNx.bad he.out (by omega)
          · obtain ⟨hE, hV, hK⟩ := hp.out.done hlt hl hc (by omega)
            have he : Hid (nErr s most = if 1099511627776 < nxV 6 s ∨ most < (nxV 6 s : Int) then 4 else 0) := by show _ = _; rw [nErr_def, hE]; rfl
            have HK := Lib.hid hK
            clear hE hV hK
            have hdn := fun m (h1 : m < k + 1) (h2 : m < s.length) => downV_step hp.out hlt hl hc h1 h2
            have hz2 : (decide (0 < k) && ((s[k].toNat : Int) == 0)) = false := by
              rw [Bool.and_eq_false_iff]; simp; omega
            have Hdn := Lib.hid hdn
            clear hdn
            by_cases hz3 : 0 < k
            all_goals
              have hz4 : 0 < k → ((s[k].toNat : Int) == 0) = false := by intro h; simp; omega
              first | have hz5 := hz4 hz3 | skip
              first | (have h4 : decide (0 < k) = true := by simp; omega) | (have h4 : decide (0 < k) = false := by simp; omega)
              clear hz2 hz4 hz hz3 h3
              go_wp2_with (fail)
              go_loop [8, 9] (fun v i => ∃ m : Nat, m ≤ k + 1 ∧ i = .int .i64 ((m : Int) - 1) ∧ v = .int .i64 (downV s k m)) (fun _ i => (intOf i + 1).toNat)
              case atStart => exact ⟨k + 1, by omega, by go_num, by rw [downV_start]; rfl⟩
              case round =>
                obtain ⟨m, hm, hi, rfl⟩ := hrel
                have hdl := downV_lt s k m (by omega)
                rcases m with _ | m
                · have hi0 := hi.trans (show Value.int .i64 (((0 : Nat) : Int) - 1) = .int .i64 (-1) from rfl)
                  subst hi0
                  rw [downV_end]
                  clear hi
                  by_cases hlong : 1099511627776 < nxV 6 s ∨ most < (nxV 6 s : Int)
                  · have he4 := Lib.hid (he.out.trans (if_pos hlong))
                    by_cases hl1 : 1099511627776 < nxV 6 s
                    all_goals
                      first
                        | (have hl2 : decide (1099511627776 < (nxV 6 s : Int)) = true := by simp; omega)
                        | ((have hl2 : decide (1099511627776 < (nxV 6 s : Int)) = false := by simp; omega); (have hl3 : decide (most < (nxV 6 s : Int)) = true := by simp; omega))
                      clear hlong hl1 he
                      go_wp2_with (fail)
                      go_ret3
                      exact RetNx.bad he4.out (by omega)
                  · have he0 := Lib.hid (he.out.trans (if_neg hlong))
                    have hl2 : decide (1099511627776 < (nxV 6 s : Int)) = false := by simp; omega
                    have hl3 : decide (most < (nxV 6 s : Int)) = false := by simp; omega
                    clear hlong he
                    go_wp2_with (fail)
                    go_ret3
                    refine ⟨?_, rfl⟩
                    rw [nVal_ok he0.out, nLen_ok he0.out, he0.out, HK.out]; rfl
                · have hi0 := hi.trans (show Value.int .i64 (((m + 1 : Nat) : Int) - 1) = .int .i64 (m : Int) by congr 1; omega)
                  subst hi0
                  clear hi
                  have hml : m < s.length := by omega
                  have hd := Hdn.out m hm hml
                  have hm8 : s[m].toNat % 128 < 128 := Nat.mod_lt _ (by omega)
                  have Hd := Lib.hid hd
                  clear hd
                  go_wp2_with (fail)
                  go_round
                  case rel => exact ⟨m, by omega, rfl, by rw [← Hd.out]; go_num⟩
                  case measure => simp [intOf]
theorem drop_take_all {α : Type} (l : List α) (n : Nat) : (l.drop n).take (l.length - n) = l.drop n := List.take_of_length_le (by rw [List.length_drop]; omega)
set_option maxHeartbeats 400000 in
theorem c_ref01_Fail (h : Nat) (st : Rd) (e : Int) (w : World) (r : RdR w h st) : Calls Tryz.prog 63 #[.pointer (some ⟨h, 0, none⟩), .int .i64 e] w (fun x w' => x = .returned (.tuple #[]) ∧ RdR w' h (rdF st e) ∧ Kept (some h) w.heap.size w w') := by
  have c1 : w.cell? ⟨h, 1, none⟩ = some (.int .i64 st.e) := r.1.cell rfl
  have f1 := r.1.frozen 1
  by_cases h0 : st.e = 0
  · have hb : (st.e == 0) = true := by simpa using h0
    rw [rdF_ok h0]
    clear h0
    go_enter Tryz.func63, Tryz.ntmps63
    go_wp2_with (fail)
    go_end0
    exact ⟨rfl, ⟨by simpa using r.1.store 1 (.int .i64 e), r.2⟩, (Kept.refl _ _ _).setCell (q := ⟨h, 1, none⟩) (.inr rfl) _⟩
  · have hb : (st.e == 0) = false := by simpa using h0
    rw [rdF_err h0]
    clear h0
    go_enter Tryz.func63, Tryz.ntmps63
    go_wp2_with (fail)
    go_end0
    exact ⟨rfl, r, Kept.refl _ _ _⟩
set_option maxHeartbeats 400000 in
theorem c_ref01_RNum (h : Nat) (st : Rd) (most : Int) (w : World) (r : RdR w h st) : Calls Tryz.prog 14 #[.pointer (some ⟨h, 0, none⟩), .int .i64 most] w (RetR h (rdN' st most) w (.int .i64 (rdN st most))) := by
  have c0 : w.cell? ⟨h, 0, none⟩ = some (.string (str st.s)) := r.1.cell rfl
  have c1 : w.cell? ⟨h, 1, none⟩ = some (.int .i64 st.e) := r.1.cell rfl
  have f1 := r.1.frozen 1
  have f0 := r.1.frozen 0
  by_cases h0 : st.e = 0
  · have hb : (st.e != 0) = false := by simpa using h0
    have hn : rdN st most = nVal st.s most := by unfold rdN; rw [if_pos h0]
    have hn' : rdN' st most = ⟨st.s.drop (nLen st.s most), nErr st.s most⟩ := by unfold rdN'; rw [if_pos h0]
    have hle := nLen_le st.s most
    have hln := r.2
    rw [hn, hn']
    have R := Lib.hid r
    clear h0 hn hn' r
    go_enter Tryz.func14, Tryz.ntmps14
    go_wp2_with (go_at_call 31; refine (c_ref01_next st.s most _ hln).mono ?_; rintro e w1 ⟨rfl, rfl⟩)
    go_ret
    refine ⟨rfl, ⟨?_, by simp; omega⟩, ((Kept.refl _ _ _).setCell (q := ⟨h, 1, none⟩) (.inr rfl) _).setCell (q := ⟨h, 0, none⟩) (.inr rfl) _⟩
    have := (R.out.1.store 1 (.int .i64 (nErr st.s most))).store 0 (.string (str (st.s.drop (nLen st.s most))))
    simpa [drop_take_all] using this
  · have hb : (st.e != 0) = true := by simpa using h0
    rw [(rdN_err h0).1, (rdN_err h0).2]
    clear h0
    go_enter Tryz.func14, Tryz.ntmps14
    go_wp2_with (fail)
    go_ret
    exact ⟨rfl, r, Kept.refl _ _ _⟩
set_option maxHeartbeats 400000 in
theorem c_ref01_RStr (h : Nat) (st : Rd) (most : Int) (w : World) (r : RdR w h st) : Calls Tryz.prog 38 #[.pointer (some ⟨h, 0, none⟩), .int .i64 most] w (RetR h (rdS' st most) w (.string (str (rdS st most)))) := by
  have c0 : w.cell? ⟨h, 0, none⟩ = some (.string (str st.s)) := r.1.cell rfl
  have c1 : w.cell? ⟨h, 1, none⟩ = some (.int .i64 st.e) := r.1.cell rfl
  have f1 := r.1.frozen 1
  have f0 := r.1.frozen 0
  have hln := r.2
  by_cases h0 : st.e = 0
  case neg =>
    have hb : (st.e != 0) = true := by simpa using h0
    rw [(rdS_err h0).1, (rdS_err h0).2]
    clear h0
    go_enter Tryz.func38, Tryz.ntmps38
    go_wp2_with (fail)
    go_ret
    exact ⟨rfl, r, Kept.refl _ _ _⟩
  have hb : (st.e != 0) = false := by simpa using h0
  have H0 := Lib.hid h0
  clear h0
  obtain ⟨er, her⟩ : ∃ er, er = nErr st.s most := ⟨_, rfl⟩
  by_cases he : er = 0
  case neg =>
    have h1 : rdS st most = [] := by unfold rdS tErr; rw [if_neg]; intro k; rw [← her, if_neg he] at k; exact he k.2
    have h2 : rdS' st most = ⟨st.s, er⟩ := by unfold rdS' tErr; rw [if_pos H0.out, ← her, if_neg he, if_neg he]
    have hbad : nErr st.s most ≠ 0 := by rw [← her]; exact he
    rw [h1, h2]
    have hne : (er != 0) = true := by simpa using he
    have hne2 : (er == 0) = false := by simpa using he
    have Hv := Lib.hid (nVal_bad hbad)
    have Hl := Lib.hid (nLen_bad hbad)
    have Her := Lib.hid her
    clear h1 h2 he hbad her
    go_enter Tryz.func38, Tryz.ntmps38
    go_wp2_with (go_at_call 31; refine (c_ref01_next st.s most _ hln).mono ?_; rintro e w1 ⟨rfl, rfl⟩; rw [Hv.out, Hl.out, ← Her.out])
    go_ret
    exact ⟨rfl, ⟨by simpa using r.1.store 1 (.int .i64 er), hln⟩, (Kept.refl _ _ _).setCell (q := ⟨h, 1, none⟩) (.inr rfl) _⟩
  have hn0 : nErr st.s most = 0 := her.symm.trans he
  have hv := nVal_ok hn0
  have hl := nLen_ok hn0
  obtain ⟨n, hn⟩ : ∃ n : Nat, n = nxV 6 st.s := ⟨_, rfl⟩
  obtain ⟨k, hk⟩ : ∃ k : Nat, k = nxK 6 st.s := ⟨_, rfl⟩
  rw [← hn] at hv
  rw [← hk] at hl
  have hn40 : n ≤ 1099511627776 := by rw [hn]; exact (nErr_ok hn0).2.1
  have hkl : k ≤ st.s.length := by rw [hk]; exact nxK_le 6 _
  by_cases hlong : n ≤ st.s.length - k
  case neg =>
    have ht : tErr st.s most = 2 := by unfold tErr; rw [if_pos hn0, ← hn, ← hk, if_neg hlong]
    have h1 : rdS st most = [] := by unfold rdS; rw [if_neg]; intro k; rw [ht] at k; exact absurd k.2 (by decide)
    have h2 : rdS' st most = ⟨st.s, 2⟩ := by unfold rdS'; rw [if_pos H0.out, if_neg (by rw [ht]; decide), ht]
    rw [h1, h2]
    have hgt : (st.s.length : Int) - (k : Int) < (n : Int) := by omega
    have Hv := Lib.hid hv
    have Hl := Lib.hid hl
    have Hn0 := Lib.hid hn0
    clear h1 h2 ht hlong hn hk hv hl hn0 her he
    go_enter Tryz.func38, Tryz.ntmps38
    go_wp2_with (go_at_call 31; refine (c_ref01_next st.s most _ hln).mono ?_; rintro e w1 ⟨rfl, rfl⟩; rw [Hv.out, Hl.out, Hn0.out])
    go_ret
    exact ⟨rfl, ⟨by simpa using r.1.store 1 (.int .i64 2), hln⟩, (Kept.refl _ _ _).setCell (q := ⟨h, 1, none⟩) (.inr rfl) _⟩
  have ht : tErr st.s most = 0 := by unfold tErr; rw [if_pos hn0, ← hn, ← hk, if_pos hlong]
  have h1 : rdS st most = (st.s.drop k).take n := by unfold rdS; rw [if_pos ⟨H0.out, ht⟩, ← hn, ← hk]
  have h2 : rdS' st most = ⟨st.s.drop (k + n), 0⟩ := by unfold rdS'; rw [if_pos H0.out, if_pos ht, ← hn, ← hk]
  have hgt : ¬ (st.s.length : Int) - (k : Int) < (n : Int) := by omega
  have hle : k + n ≤ st.s.length := by omega
  rw [h1, h2]
  have Hv := Lib.hid hv
  have Hl := Lib.hid hl
  have Hn0 := Lib.hid hn0
  have R := Lib.hid r
  clear h1 h2 ht hlong hn hk hv hl hn0 her he r
  go_enter Tryz.func38, Tryz.ntmps38
  go_wp2_with (go_at_call 31; refine (c_ref01_next st.s most _ hln).mono ?_; rintro e w1 ⟨rfl, rfl⟩; rw [Hv.out, Hl.out, Hn0.out])
  go_ret
  refine ⟨?_, ⟨?_, by simp; omega⟩, (Kept.refl _ _ _).setCell (q := ⟨h, 0, none⟩) (.inr rfl) _⟩
  · show Ending.returned (Value.string _) = _
    congr 2
    have : k + n - k = n := by omega
    simp [this]
  · have := R.out.1.store 0 (.string (str (st.s.drop (k + n))))
    simpa [drop_take_all, H0.out] using this
end Go.Proofs.YtiedkcijjfmhaaaGreatDoor
namespace Go.Proofs.YtiedkcijjfmhaaaGreatDoor
open Go.RowKit

section
variable {P : Program} {w : World}
theorem stop_bin {ops : Array Oper} {rest : List Oper} {o : Oper} {a : Act} {Q : Exit → Act → World → Prop} (op : BinOp) (ty : TypeId) (x y : Operand) (ty2 : TypeId) (_ : o.op = .binOp op ty x y ty2) (h : Stop (wpList P ops Q (o :: rest) a w)) : wpList P ops Q (o :: rest) a w := h
theorem wpList_eqlS {ops : Array Oper} {rest : List Oper} {o : Oper} {a : Act} {Q : Exit → Act → World → Prop} (hw : Region.wanted o (yielded ops a.tmps) = true) (ty : TypeId) (x y : Operand) (ty2 : TypeId) (ho : o.op = .binOp .eql ty x y ty2)
    (xs ys : Array Value) (hx : a.eval x = .agg xs) (hy : a.eval y = .agg ys) (hg : P.eqGuardType P.depth ty = false) (b : Bool) (he : (Op.equalIn 10000 ty (.agg xs) (.agg ys)).run P w = .ok b w)
    (h : wpList P ops Q rest (a.put o.dst (.bool b)) w) : wpList P ops Q (o :: rest) a w := by
  refine wpList_g hw fun K hK => ?_
  unfold Oper.wp execOp
  simp only [ho, hx, hy, Sem.run_bind, Sem.run_pure, Result.andThen_ok, run_eqGuard_agg w _ _ _ _ _ _ hg, run_eql_struct, he]
  exact hK _ _ h
end
theorem gP : Tryz.prog.eqGuardType Tryz.prog.depth 39 = false := by kernel_rfl
theorem gE : Tryz.prog.eqGuardType Tryz.prog.depth 41 = false := by kernel_rfl
end Go.Proofs.YtiedkcijjfmhaaaGreatDoor
namespace Go.Proofs.YtiedkcijjfmhaaaGreatDoor
open Go.RowKit

/-- A world behind the making of one block, in which that block is as it was made. -/
def At (w w' : World) (cs : Array Value) : Prop := Below w.heap.size w w' ∧ Blk w' w.heap.size cs
theorem At.new (w : World) (t : TypeId) (cs : Array Value) : At w (w.alloc (.cells cs t)) cs := ⟨(Below.refl _ _).alloc (Nat.le_refl _) _, Blk.new _ _ _⟩
theorem At.step {w w1 w2 : World} {cs : Array Value} (h : At w w1 cs) (hb : Below w1.heap.size w1 w2) : At w w2 cs := ⟨h.1.trans (hb.mono h.1.size), h.2.below hb h.2.lt⟩
theorem At.alloc {w w1 : World} {cs : Array Value} (h : At w w1 cs) (o : Obj) : At w (w1.alloc o) cs := h.step ((Below.refl _ _).alloc (Nat.le_refl _) o)
end Go.Proofs.YtiedkcijjfmhaaaGreatDoor
namespace Go.Proofs.YtiedkcijjfmhaaaGreatDoor
open Go.RowKit

theorem fresh_below {w w' : World} {o : Obj} (hk : Kept (some w.heap.size) (w.alloc o).heap.size (w.alloc o) w') : Below w.heap.size w w' := ((Below.refl _ _).alloc (Nat.le_refl _) _).trans (hk.oneB (by simp) (Nat.le_refl _))
/-- The first block of a call's own is made. -/
theorem At.go {P : Program} {ops : Array Oper} {l : List Oper} {a : Act} {Q : Exit → Act → World → Prop} {t : TypeId} {w : World} {cs : Array Value} (h : ∀ w', At w w' cs → w'.heap.size = w.heap.size + 1 → wpList P ops Q l a w') :
    wpList P ops Q l a (w.alloc (.cells cs t)) := h _ (At.new w t cs) (by simp)
theorem At.as {w w' : World} {cs ds : Array Value} (h : At w w' cs) (e : cs = ds) : At w w' ds := e ▸ h
theorem At.kept {w w1 w2 : World} {cs : Array Value} (h : At w w1 cs) {q : Nat} (hq : w.heap.size < q) (k : Kept (some q) w1.heap.size w1 w2) : At w w2 cs :=
  ⟨h.1.trans (k.oneB h.1.size (by omega)), h.2.kept k h.2.lt (fun e => by injection e with e; omega)⟩
theorem At.lt {w w' : World} {cs : Array Value} (h : At w w' cs) : w.heap.size < w'.heap.size := h.2.lt
end Go.Proofs.YtiedkcijjfmhaaaGreatDoor
namespace Go.Proofs.YtiedkcijjfmhaaaGreatDoor
open Go.RowKit

/-- A world behind the making of two blocks, in which they are as they were made. -/
def At2 (w w' : World) (cs ds : Array Value) : Prop := Below w.heap.size w w' ∧ Blk w' w.heap.size cs ∧ Blk w' (w.heap.size + 1) ds
theorem At2.new (w : World) (s t : TypeId) (cs ds : Array Value) : At2 w ((w.alloc (.cells cs s)).alloc (.cells ds t)) cs ds := by
  have h := (At.new w s cs).alloc (.cells ds t)
  refine ⟨h.1, h.2, ?_⟩
  have := Blk.new (w.alloc (.cells cs s)) t ds
  simpa using this
theorem At2.step {w w1 w2 : World} {cs ds : Array Value} (h : At2 w w1 cs ds) (hb : Below w1.heap.size w1 w2) : At2 w w2 cs ds := ⟨h.1.trans (hb.mono h.1.size), h.2.1.below hb h.2.1.lt, h.2.2.below hb h.2.2.lt⟩
end Go.Proofs.YtiedkcijjfmhaaaGreatDoor
namespace Go.Proofs.YtiedkcijjfmhaaaGreatDoor
open Go.RowKit

def joined (op : Int) (l : List Node) : List Node := ⟨op, 0, ⟨0, 0, []⟩⟩ :: l
theorem Tree.ahead {a : List Node} {d : Nat} (h : Tree a d) (q : List Node) : Trees 1 (a ++ q) q d := by
  obtain ⟨p, hp, hq⟩ := Trees.behind h
  rw [List.append_nil] at hp
  subst hp
  exact hq q
end Go.Proofs.YtiedkcijjfmhaaaGreatDoor
namespace Go.Proofs.YtiedkcijjfmhaaaGreatDoor

def cmpI (a b : Int) : Int := if a < b then -1 else if b < a then 1 else 0
theorem cmpI_lt {a b : Int} (h : a < b) : cmpI a b = -1 := by unfold cmpI; rw [if_pos h]
theorem cmpI_gt {a b : Int} (h : b < a) : cmpI a b = 1 := by unfold cmpI; rw [if_neg (by omega), if_pos h]
theorem cmpI_eq {a b : Int} (h : a = b) : cmpI a b = 0 := by unfold cmpI; rw [if_neg (by omega), if_neg (by omega)]
theorem cmpI_zero {a b : Int} : cmpI a b = 0 ↔ a = b := by
  constructor
  · intro h
    rcases Int.lt_trichotomy a b with h1 | h1 | h1
    · rw [cmpI_lt h1] at h; cases h
    · exact h1
    · rw [cmpI_gt h1] at h; cases h
  · exact cmpI_eq
theorem cmpI_self (a : Int) : cmpI a a = 0 := cmpI_eq rfl
def cmpS : List UInt8 → List UInt8 → Int
  | [], [] => 0
  | [], _ :: _ => -1
  | _ :: _, [] => 1
  | a :: x, b :: y => if a.toNat < b.toNat then -1 else if b.toNat < a.toNat then 1 else cmpS x y
theorem cmpS_bd : ∀ a b, -1 ≤ cmpS a b ∧ cmpS a b ≤ 1
  | [], [] => by simp [cmpS]
  | [], _ :: _ => by simp [cmpS]
  | _ :: _, [] => by simp [cmpS]
  | a :: x, b :: y => by
    unfold cmpS
    split
    · omega
    · split
      · omega
      · exact cmpS_bd x y
theorem cmpS_neg : ∀ a b, cmpS b a = -cmpS a b
  | [], [] => rfl
  | [], _ :: _ => rfl
  | _ :: _, [] => rfl
  | a :: x, b :: y => by
    have ih := cmpS_neg x y
    unfold cmpS
    by_cases h1 : a.toNat < b.toNat
    · rw [if_neg (by omega), if_pos h1, if_pos h1]; rfl
    · by_cases h2 : b.toNat < a.toNat
      · rw [if_pos h2, if_neg h1, if_pos h2]
      · rw [if_neg h2, if_neg h1, if_neg h1, if_neg h2]; exact ih
theorem cmpS_zero : ∀ a b, cmpS a b = 0 ↔ a = b
  | [], [] => by simp [cmpS]
  | [], _ :: _ => by simp [cmpS]
  | _ :: _, [] => by simp [cmpS]
  | a :: x, b :: y => by
    have ih := cmpS_zero x y
    unfold cmpS
    by_cases h1 : a.toNat < b.toNat
    · rw [if_pos h1]; constructor
      · intro h; cases h
      · intro h; injection h with h2; subst h2; omega
    · by_cases h2 : b.toNat < a.toNat
      · rw [if_neg h1, if_pos h2]; constructor
        · intro h; cases h
        · intro h; injection h with h3; subst h3; omega
      · rw [if_neg h1, if_neg h2, ih]
        have : a = b := UInt8.toNat_inj.1 (by omega)
        subst this
        simp
theorem bytesLess_cmp : ∀ a b : List UInt8, Op.bytesLess a b = decide (cmpS a b = -1)
  | [], [] => rfl
  | [], _ :: _ => rfl
  | _ :: _, [] => rfl
  | a :: x, b :: y => by
    have ih := bytesLess_cmp x y
    unfold Op.bytesLess cmpS
    by_cases h1 : a.toNat < b.toNat
    · rw [if_pos h1]; simp [UInt8.lt_iff_toNat_lt, h1]
    · by_cases h2 : b.toNat < a.toNat
      · rw [if_neg h1, if_pos h2]
        have hne : a ≠ b := fun e => by subst e; omega
        simp [UInt8.lt_iff_toNat_lt, h1, hne]
      · have : a = b := UInt8.toNat_inj.1 (by omega)
        subst this
        rw [if_neg h1, if_neg h2, ih]
        simp
theorem beq_cmp (a b : List UInt8) : (a == b) = decide (cmpS a b = 0) := by
  rw [Bool.eq_iff_iff]; simp [cmpS_zero]
def Val.cmp (a b : Val) : Int := if cmpI a.kind b.kind ≠ 0 then cmpI a.kind b.kind else if cmpI a.n b.n ≠ 0 then cmpI a.n b.n else cmpS a.s b.s
theorem Val.cmp_zero (a b : Val) : a.cmp b = 0 ↔ a = b := by
  unfold Val.cmp
  obtain ⟨k, n, s⟩ := a
  obtain ⟨k', n', s'⟩ := b
  simp only [Val.mk.injEq]
  by_cases h1 : k = k'
  · by_cases h2 : n = n'
    · subst h1; subst h2; simp [cmpI_self, cmpS_zero]
    · have := mt cmpI_zero.1 h2
      simp [cmpI_eq h1, this, h2]
  · have := mt cmpI_zero.1 h1
    simp [this, h1]
def Node.cmp (a b : Node) : Int := if cmpI a.op b.op ≠ 0 then cmpI a.op b.op else if cmpI a.n b.n ≠ 0 then cmpI a.n b.n else a.v.cmp b.v
theorem Val.cmp_self (a : Val) : a.cmp a = 0 := (Val.cmp_zero a a).2 rfl
theorem Node.cmp_zero (a b : Node) : a.cmp b = 0 ↔ a = b := by
  unfold Node.cmp
  obtain ⟨k, n, s⟩ := a
  obtain ⟨k', n', s'⟩ := b
  simp only [Node.mk.injEq]
  by_cases h1 : k = k'
  · by_cases h2 : n = n'
    · subst h1; subst h2; simp [cmpI_self, Val.cmp_zero]
    · have := mt cmpI_zero.1 h2
      simp [cmpI_eq h1, this, h2]
  · have := mt cmpI_zero.1 h1
    simp [this, h1]
theorem Node.cmp_self (a : Node) : a.cmp a = 0 := (Node.cmp_zero a a).2 rfl
/-- Which list stands ahead. -/
def cmpL : List Node → List Node → Int
  | [], [] => 0
  | [], _ :: _ => -1
  | _ :: _, [] => 1
  | a :: x, b :: y => if a.cmp b ≠ 0 then a.cmp b else cmpL x y
theorem cmpL_zero : ∀ a b, cmpL a b = 0 ↔ a = b
  | [], [] => by simp [cmpL]
  | [], _ :: _ => by simp [cmpL]
  | _ :: _, [] => by simp [cmpL]
  | a :: x, b :: y => by
    have ih := cmpL_zero x y
    unfold cmpL
    by_cases h1 : a.cmp b = 0
    · have := (Node.cmp_zero a b).1 h1
      subst this
      simp [Node.cmp_self, ih]
    · have : a ≠ b := mt (Node.cmp_zero a b).2 h1
      simp [h1, this]
theorem cmpL_at (a b : List Node) (k : Nat) (ha : k < a.length) (hb : k < b.length) : cmpL (a.drop k) (b.drop k) = if a[k].cmp b[k] ≠ 0 then a[k].cmp b[k] else cmpL (a.drop (k + 1)) (b.drop (k + 1)) := by
  rw [List.drop_eq_getElem_cons ha, List.drop_eq_getElem_cons hb]; rfl
theorem cmpL_left (a b : List Node) (k : Nat) (ha : a.length ≤ k) (hb : k < b.length) : cmpL (a.drop k) (b.drop k) = -1 := by
  rw [List.drop_of_length_le ha, List.drop_eq_getElem_cons hb]; rfl
theorem cmpL_right (a b : List Node) (k : Nat) (ha : k < a.length) (hb : b.length ≤ k) : cmpL (a.drop k) (b.drop k) = 1 := by
  rw [List.drop_of_length_le hb, List.drop_eq_getElem_cons ha]; rfl
end Go.Proofs.YtiedkcijjfmhaaaGreatDoor
namespace Go.Proofs.YtiedkcijjfmhaaaGreatDoor
open Go.RowKit
section
variable {P : Program} {ops : Array Oper} {md : Region.Mode} {C : World → Prop}
def headAny (P : Program) (md : Region.Mode) (ops : Array Oper) (C : World → Prop) (n : Nat) (L : Array Bool → Act → Prop) : Nat → Array Bool → Act → Prop
  | 0, listed, a => L listed a
  | f + 1, listed, a =>
    Region.ready md ops listed ≠ [] ∧ ∀ i ∈ Region.ready md ops listed, i < n ∧ qOp P ops C i (headAny P md ops C n L f (listed.setIfInBounds i true)) a
theorem any_of_head {n g : Nat} {L : Array Bool → Act → Prop} {Q' : Exit → Act → World → Prop} (hL : ∀ listed a w, C w → L listed a → wpAny P md ops Q' g listed a w) :
    ∀ (f : Nat) (listed : Array Bool) (a : Act) (w : World), C w → headAny P md ops C n L f listed a → wpAny P md ops Q' (f + g) listed a w
  | 0, listed, a, w, hw, h => by rw [Nat.zero_add]; exact hL _ _ _ hw h
  | f + 1, listed, a, w, hw, h => by
    rw [show f + 1 + g = (f + g) + 1 by omega]
    exact ⟨fun h0 => absurd h0 h.1, fun i hi => wpOp_of_qOp hw (fun a' w' hw' h' => any_of_head hL f _ a' w' hw' h') (h.2 i hi).2⟩
theorem head_first {n i : Nat} {oi : Oper} {v : Value} {L : Array Bool → Act → Prop} (hi : ops[i]? = some oi) (hsel : ∀ (j : Nat) (o : Oper) cs b, ops[j]? = some o → o.op ≠ .select cs b)
    (hs : Region.sinkB md ops n = true) (hc : Region.chainB md ops n = true) (hn : n < ops.size) (hin : i < n)
    (hdone : ∀ listed a, L listed a → ∀ j ∈ Region.ready md ops listed, n ≤ j) :
    ∀ (f : Nat) (listed : Array Bool) (a : Act), HeadInv md ops n listed →
      (∀ j oj, ops[j]? = some oj → j ≠ i → listed.getD j true = false → (∀ e ∈ oj.after, Region.binds md e = true → e.on ≠ i) → oi.apart ops oj = true) →
      i ∈ Region.ready md ops listed → YieldsIn P ops C oi v a →
      headAny P md ops C n L f (listed.setIfInBounds i true) (a.put oi.dst v) → headAny P md ops C n L (f + 1) listed a := by
  intro f
  induction f with
  | zero =>
    intro listed a inv _ hr hy H
    refine ⟨fun h => (by rw [h] at hr; cases hr), fun j hj => ?_⟩
    have hjn : j < n := by
      rcases Nat.lt_or_ge j n with h | h
      · exact h
      · exact absurd hj (tail_waits hs hc hn inv _ i rfl hin (mem_ready.1 hr).1 j h)
    refine ⟨hjn, ?_⟩
    by_cases hji : j = i
    · subst hji; exact hy.qOp hi H
    · have := hdone _ _ H j (ready_mono hj hji)
      omega
  | succ f ih =>
    intro listed a inv hfree hr hy H
    have hun := (mem_ready.1 hr).1
    refine ⟨fun h => (by rw [h] at hr; cases hr), fun j hj => ?_⟩
    have hjn : j < n := by
      rcases Nat.lt_or_ge j n with h | h
      · exact h
      · exact absurd hj (tail_waits hs hc hn inv _ i rfl hin hun j h)
    refine ⟨hjn, ?_⟩
    by_cases hji : j = i
    · subst hji; exact hy.qOp hi H
    · have h1 := (H.2 j (ready_mono hj hji)).2
      obtain ⟨hjun, oj, hoj, hall⟩ := mem_ready.1 hj
      have hnot : ∀ e ∈ oj.after, Region.binds md e = true → e.on ≠ i := fun e he hb heq => by
        have h1 := hall e he hb
        rw [heq, getD_both hun] at h1
        cases h1
      have h2 := qOp_put hoj (hfree j oj hoj hji hjun hnot) (fun cs b => hsel i oi cs b hi) (fun cs b => hsel j oj cs b hoj) hy h1
      have hfree' : ∀ k ok, ops[k]? = some ok → k ≠ i → (listed.setIfInBounds j true).getD k true = false →
          (∀ e ∈ ok.after, Region.binds md e = true → e.on ≠ i) → oi.apart ops ok = true := fun k ok hk hki hun' hno => by
        refine hfree k ok hk hki ?_ hno
        by_cases hjk : j = k
        · subst hjk; exact hjun
        · rw [getD_set_ne true hjk] at hun'; exact hun'
      refine qOp_mono (fun a' h3 => ih (listed.setIfInBounds j true) a' (inv.set hj hjn) hfree' (ready_mono hr (Ne.symm hji)) h3.1 ?_) h2
      rw [Array.setIfInBounds_comm _ _ hji]
      exact h3.2
theorem head_lex {n g : Nat} {Lq : Act → Prop} (hsel : Region.noSelect ops = true) (hs : Region.sinkB md ops n = true) (hc : Region.chainB md ops n = true) (hn : n < ops.size) :
    ∀ (l : List Oper) (k : Nat) (listed : Array Bool) (a : Act), (∀ j, j < l.length → l[j]? = ops[k + j]?) → k + l.length = n → HeadInv md ops n listed →
    Region.lexHead md ops g l.length k listed = true → wpQuiet P ops C Lq l a →
    headAny P md ops C n (fun listed' a' => Region.seqB md ops g n listed' = true ∧ Lq a') l.length listed a
  | [], k, listed, a, _, hk, _, hB, h => by
    have : k = n := by simpa using hk
    subst this
    exact ⟨by simpa [Region.lexHead] using hB, h⟩
  | o :: l, k, listed, a, hl, hk, inv, hB, h => by
    have h0 : ops[k]? = some o := by simpa using (hl 0 (by simp)).symm
    simp only [List.length_cons, Region.lexHead, Bool.and_eq_true] at hB
    obtain ⟨⟨hr, hf⟩, hB'⟩ := hB
    have hkn : k < n := by simp only [List.length_cons] at hk; omega
    have hr' : k ∈ Region.ready md ops listed := by simpa using hr
    have hst : qOp P ops C k (wpQuiet P ops C Lq l) a := by unfold qOp; simp only [h0]; exact h
    obtain ⟨v, hy, hK⟩ := yieldsIn_of_qOp h0 hst
    exact head_first h0 (Region.noSelect_spec hsel) hs hc hn hkn (fun listed' a' hL => seqB_ready hL.1) l.length listed a inv (Region.free_spec h0 hf) hr' hy
      (head_lex hsel hs hc hn l (k + 1) _ _ (fun j hj => by have := hl (j + 1) (by simp; omega); simpa [Nat.add_assoc, Nat.add_comm 1 j] using this) (by simp only [List.length_cons] at hk; omega) (inv.set hr' hkn) hB' hK)
end
/-- The first n operations read and call; behind them the rest comes one by one. -/
theorem wp_region_tail {P : Program} {id : Nat} {Q : Exit → Act → World → Prop} {a : Act} {w : World} {l : List Oper} (n : Nat) (hm : P.follows .mixedOrders = true) (hB : Region.lexTailB .any l.toArray n = true)
    (h : wpQuiet P l.toArray (fun w' => ∃ x : Grow w, w' = grow w x) (fun a' => ∀ w', Below w.heap.size w w' → wpList P l.toArray Q (l.drop n) a' w') (l.take n) a) : (Code.region id l.toArray true).wp P Q a w := by
  simp only [Region.lexTailB, Bool.and_eq_true, decide_eq_true_eq] at hB
  obtain ⟨⟨⟨⟨hsel, hn⟩, hs⟩, hc⟩, hlex⟩ := hB
  have hn' : n < l.length := by simpa using hn
  have htl : (l.take n).length = n := by simp; omega
  have hdl : (l.drop n).length = l.toArray.size - n := by simp
  have inv0 : HeadInv .any l.toArray n (Array.replicate l.toArray.size false) :=
    ⟨by simp, fun j oj _ hl => (by rw [getD_replicate_false] at hl; cases hl), fun t _ ht => getD_in (by simpa using ht) (getD_replicate_false _ _)⟩
  have H := head_lex (md := .any) (g := l.toArray.size - n) hsel hs hc hn (l.take n) 0 _ a (fun j hj => by
    have hj' : j < n := by rw [htl] at hj; exact hj
    simp [hj']) (by simpa using htl) inv0 (by rw [htl]; exact hlex) h
  refine wp_region_any hm ?_
  have := any_of_head (Q' := Q) (g := l.toArray.size - n) (C := fun w' => ∃ x : Grow w, w' = grow w x) (fun listed a' w' hw' hL => by
    obtain ⟨x, rfl⟩ := hw'
    have := wpAny_of_seq (md := .any) (Q' := Q) (l.drop n) n listed a' (grow w x) (fun j => by simp [List.getElem?_drop]) (by rw [hdl]; exact hL.1) (hL.2 _ (grow_below w x))
    rwa [hdl] at this) _ _ _ _ (drew_grow w) H
  rw [htl, show n + (l.toArray.size - n) = l.toArray.size by omega] at this
  exact this
end Go.Proofs.YtiedkcijjfmhaaaGreatDoor
namespace Go.Proofs.YtiedkcijjfmhaaaGreatDoor
open Go.RowKit

/-- What is told of an operation's value. -/
structure Sp where
  holds : Value → World → Prop
  stays : ∀ v w w', holds v w → Below w.heap.size w w' → holds v w'
def Sp.any : Sp := ⟨fun _ _ => True, fun _ _ _ _ _ => trivial⟩
def Sp.eq (x : Value) : Sp := ⟨fun v _ => v = x, fun _ _ _ h _ => h⟩
def Sp.slice {α : Type} (k : Nat) (cs : α → List Value) (l : List α) : Sp := ⟨fun v w => ∃ A c, v = .slice A l.length c ∧ In k cs w A c l, fun _ _ _ ⟨A, c, hv, h⟩ hb => ⟨A, c, hv, h.below hb⟩⟩
theorem Sp.eq_holds (x v : Value) (w : World) : (Sp.eq x).holds v w = (v = x) := rfl
def dstOf (ops : Array Oper) (j : Nat) : Option Tmp := (ops[j]?).bind (·.dst)
/-- The frame with all values put. -/
def putAll (u : Nat → Value) : List Oper → Nat → Act → Act
  | [], _, a => a
  | o :: r, i, a => putAll u r (i + 1) (a.put o.dst (u i))
/-- The frame with the values of what is waited for. -/
def putDeps (ops : Array Oper) (u : Nat → Value) : List Edge → Act → Act
  | [], a => a
  | e :: r, a => putDeps ops u r (if Region.binds .any e = true then a.put (dstOf ops e.on) (u e.on) else a)
def Deps (S : List Sp) (u : Nat → Value) (w : World) : List Edge → Prop
  | [] => True
  | e :: r => (Region.binds .any e = true → (S.getD e.on Sp.any).holds (u e.on) w) ∧ Deps S u w r
def RelEnd (ds : List Deferred) (d : Option Tmp) (s : Sp) (w1 : World) (e : Exit) (a' : Act) (w' : World) : Prop :=
  e = .normal ∧ a'.defers = ds ∧ Below w1.heap.size w1 w' ∧ ∀ t, d = some t → s.holds (a'.tmps.getD t undef) w'
theorem RelEnd.mk {ds : List Deferred} {d : Tmp} {s : Sp} {w1 : World} {a' : Act} {w' : World} (h1 : a'.defers = ds) (h2 : Below w1.heap.size w1 w') (h3 : s.holds (a'.tmps.getD d undef) w') : RelEnd ds (some d) s w1 .normal a' w' :=
  ⟨rfl, h1, h2, fun t e => by injection e with e; subst e; exact h3⟩
def RelGoals (P : Program) (ops : Array Oper) (S : List Sp) (a : Act) (w : World) : List Oper → Nat → Prop
  | [], _ => True
  | o :: r, i => (∀ (u : Nat → Value) (w1 : World), Below w.heap.size w w1 → Deps S u w1 o.after.toList → wpList P ops (RelEnd a.defers o.dst (S.getD i Sp.any) w1) [o] (putDeps ops u o.after.toList a) w1) ∧ RelGoals P ops S a w r (i + 1)
def RelHold (u : Nat → Value) (w : World) : List Sp → Nat → Prop
  | [], _ => True
  | s :: r, i => s.holds (u i) w ∧ RelHold u w r (i + 1)
def relB (ops : Array Oper) (N : Nat) : Bool :=
  (List.range ops.size).all fun i => match ops[i]? with
    | none => false
    | some o =>
      (match o.dst with
        | none => false
        | some d => decide (d < N) && (List.range ops.size).all (fun j => j == i || dstOf ops j != some d)) &&
      (match o.op with
        | .select .. => false
        | _ => true) &&
      o.after.all (fun e => !Region.binds .any e || decide (e.on < i)) &&
      (o.looksAt ops).all (fun t => (List.range ops.size).all fun j => dstOf ops j != some t || o.after.any (fun e => Region.binds .any e && e.on == j) ||
        (match ops[j]? with
          | none => false
          | some oj => oj.after.any (fun e => Region.binds .any e && e.on == i)))
section
variable {ops : Array Oper} {N : Nat}
theorem relB_spec (h : relB ops N = true) {i : Nat} {o : Oper} (ho : ops[i]? = some o) :
    (∃ d, o.dst = some d ∧ d < N ∧ ∀ j, dstOf ops j = some d → j = i) ∧ (∀ cs b, o.op ≠ .select cs b) ∧ (∀ e ∈ o.after, Region.binds .any e = true → e.on < i) ∧
    (∀ t ∈ o.looksAt ops, ∀ j, dstOf ops j = some t → (∃ e ∈ o.after, Region.binds .any e = true ∧ e.on = j) ∨ (∃ oj, ops[j]? = some oj ∧ ∃ e ∈ oj.after, Region.binds .any e = true ∧ e.on = i)) := by
  have hi : i < ops.size := (Array.getElem?_eq_some_iff.1 ho).1
  have hlt : ∀ j t, dstOf ops j = some t → j < ops.size := fun j t hj => by
    rcases Nat.lt_or_ge j ops.size with h | h
    · exact h
    · simp [dstOf, Array.getElem?_eq_none h] at hj
  unfold relB at h
  rw [List.all_eq_true] at h
  have h1 := h i (List.mem_range.2 hi)
  rw [ho] at h1
  simp only [Bool.and_eq_true] at h1
  obtain ⟨⟨⟨h2, h3⟩, h4⟩, h5⟩ := h1
  refine ⟨?_, ?_, ?_, ?_⟩
  · cases hd : o.dst with
    | none => rw [hd] at h2; cases h2
    | some d =>
      rw [hd] at h2
      simp only [Bool.and_eq_true, decide_eq_true_eq] at h2
      refine ⟨d, rfl, h2.1, fun j hj => ?_⟩
      have := List.all_eq_true.1 h2.2 j (List.mem_range.2 (hlt j d hj))
      simp only [Bool.or_eq_true, beq_iff_eq, bne_iff_ne] at this
      exact this.resolve_right (fun hn => hn hj)
  · intro cs b hs
    rw [hs] at h3
    cases h3
  · intro e he hb
    have := Array.all_eq_true_iff_forall_mem.1 h4 e he
    simpa [hb] using this
  · intro t ht j hj
    have := List.all_eq_true.1 (List.all_eq_true.1 h5 t ht) j (List.mem_range.2 (hlt j t hj))
    simp only [Bool.or_eq_true, bne_iff_ne] at this
    rcases this with (h6 | h6) | h6
    · exact absurd hj h6
    · left
      rw [Array.any_eq_true'] at h6
      obtain ⟨e, he, h7⟩ := h6
      simp only [Bool.and_eq_true, beq_iff_eq] at h7
      exact ⟨e, he, h7.1, h7.2⟩
    · right
      cases hoj : ops[j]? with
      | none => rw [hoj] at h6; cases h6
      | some oj =>
        rw [hoj] at h6
        simp only at h6
        rw [Array.any_eq_true'] at h6
        obtain ⟨e, he, h7⟩ := h6
        simp only [Bool.and_eq_true, beq_iff_eq] at h7
        exact ⟨oj, rfl, e, he, h7.1, h7.2⟩
theorem put_size (a : Act) (d : Option Tmp) (v : Value) : (a.put d v).tmps.size = a.tmps.size := by cases d <;> simp [Act.put]
theorem put_defers (a : Act) (d : Option Tmp) (v : Value) : (a.put d v).defers = a.defers := by cases d <;> rfl
theorem put_get_ne (a : Act) {d : Option Tmp} (v : Value) {t : Tmp} (h : d ≠ some t) : (a.put d v).tmps[t]? = a.tmps[t]? := by
  cases d with
  | none => rfl
  | some d => simp only [Act.put]; rw [Array.getElem?_setIfInBounds_ne (fun e => h (by rw [e]))]
theorem put_get_eq (a : Act) (v : Value) {t : Tmp} (h : t < a.tmps.size) : (a.put (some t) v).tmps[t]? = some v := by
  simp only [Act.put]
  rw [Array.getElem?_setIfInBounds]
  simp [h]
theorem putDeps_size (u : Nat → Value) : ∀ (es : List Edge) (a : Act), (putDeps ops u es a).tmps.size = a.tmps.size ∧ (putDeps ops u es a).defers = a.defers
  | [], a => ⟨rfl, rfl⟩
  | e :: r, a => by
    unfold putDeps
    have := putDeps_size u r (if Region.binds .any e = true then a.put (dstOf ops e.on) (u e.on) else a)
    split at this
    · rename_i hb
      rw [if_pos hb]
      exact ⟨this.1.trans (put_size _ _ _), this.2.trans (put_defers _ _ _)⟩
    · rename_i hb
      rw [if_neg hb]
      exact this
theorem putDeps_miss (u : Nat → Value) {t : Tmp} : ∀ (es : List Edge) (a : Act), (∀ e ∈ es, Region.binds .any e = true → dstOf ops e.on ≠ some t) → (putDeps ops u es a).tmps[t]? = a.tmps[t]?
  | [], a, _ => rfl
  | e :: r, a, h => by
    unfold putDeps
    rw [putDeps_miss u r _ (fun e' he' => h e' (List.mem_cons_of_mem _ he'))]
    split
    · rename_i hb
      exact put_get_ne _ _ (h e (List.mem_cons_self ..) hb)
    · rfl
theorem putDeps_hit (u : Nat → Value) {t : Tmp} {j : Nat} (hj : ∀ i, dstOf ops i = some t → i = j) : ∀ (es : List Edge) (a : Act), t < a.tmps.size → (∃ e ∈ es, Region.binds .any e = true ∧ dstOf ops e.on = some t) → (putDeps ops u es a).tmps[t]? = some (u j)
  | [], a, _, ⟨_, he, _⟩ => by cases he
  | e :: r, a, ht, ⟨e', he', hb', hd'⟩ => by
    unfold putDeps
    by_cases hex : ∃ e ∈ r, Region.binds .any e = true ∧ dstOf ops e.on = some t
    · refine putDeps_hit u hj r _ ?_ hex
      split
      · rw [put_size]; exact ht
      · exact ht
    · rw [putDeps_miss u r _ (fun x hx hb hd => hex ⟨x, hx, hb, hd⟩)]
      rcases List.mem_cons.1 he' with rfl | he'
      · rw [if_pos hb', hd', hj _ hd']
        exact put_get_eq _ _ ht
      · exact absurd ⟨e', he', hb', hd'⟩ hex
theorem putAll_size (u : Nat → Value) : ∀ (l : List Oper) (i : Nat) (a : Act), (putAll u l i a).tmps.size = a.tmps.size ∧ (putAll u l i a).defers = a.defers
  | [], _, a => ⟨rfl, rfl⟩
  | o :: r, i, a => by
    unfold putAll
    have := putAll_size u r (i + 1) (a.put o.dst (u i))
    exact ⟨this.1.trans (put_size _ _ _), this.2.trans (put_defers _ _ _)⟩
theorem putAll_miss (u : Nat → Value) {t : Tmp} : ∀ (l : List Oper) (i : Nat) (a : Act), (∀ o ∈ l, o.dst ≠ some t) → (putAll u l i a).tmps[t]? = a.tmps[t]?
  | [], _, a, _ => rfl
  | o :: r, i, a, h => by
    unfold putAll
    rw [putAll_miss u r (i + 1) _ (fun x hx => h x (List.mem_cons_of_mem _ hx))]
    exact put_get_ne _ _ (h o (List.mem_cons_self ..))
theorem putAll_hit (u : Nat → Value) {t : Tmp} : ∀ (l : List Oper) (i : Nat) (a : Act) (j : Nat) (o : Oper), t < a.tmps.size → l[j]? = some o → o.dst = some t → (∀ k x, l[k]? = some x → x.dst = some t → k = j) → (putAll u l i a).tmps[t]? = some (u (i + j))
  | [], _, _, _, _, _, h, _, _ => by simp at h
  | x :: r, i, a, 0, o, ht, h, hd, hu => by
    unfold putAll
    simp only [List.getElem?_cons_zero, Option.some.injEq] at h
    subst h
    rw [putAll_miss u r (i + 1) _ (fun y hy hyd => by
      obtain ⟨k, hk, rfl⟩ := List.getElem_of_mem hy
      have := hu (k + 1) r[k] (by simp [hk]) hyd
      omega), hd]
    exact put_get_eq _ _ ht
  | x :: r, i, a, j + 1, o, ht, h, hd, hu => by
    unfold putAll
    rw [putAll_hit u r (i + 1) _ j o (by rw [put_size]; exact ht) (by simpa using h) hd (fun k y hk hy => by have := hu (k + 1) y (by simpa using hk) hy; omega)]
    congr 2
    omega
end
section
variable {P : Program} {S : List Sp} {a : Act} {w : World} {l : List Oper}
theorem RelGoals.at {ops : Array Oper} : ∀ (l : List Oper) (i : Nat), RelGoals P ops S a w l i → ∀ (j : Nat) (o : Oper), l[j]? = some o → ∀ (u : Nat → Value) (w1 : World), Below w.heap.size w w1 → Deps S u w1 o.after.toList →
    wpList P ops (RelEnd a.defers o.dst (S.getD (i + j) Sp.any) w1) [o] (putDeps ops u o.after.toList a) w1
  | [], _, _, _, _, h => by simp at h
  | x :: r, i, hg, 0, o, h => by
    simp only [List.getElem?_cons_zero, Option.some.injEq] at h
    subst h
    exact hg.1
  | x :: r, i, hg, j + 1, o, h => by
    have := RelGoals.at r (i + 1) hg.2 j o (by simpa using h)
    rw [show i + 1 + j = i + (j + 1) by omega] at this
    exact this
theorem Deps.of {u : Nat → Value} {w1 : World} : ∀ es : List Edge, (∀ e ∈ es, Region.binds .any e = true → (S.getD e.on Sp.any).holds (u e.on) w1) → Deps S u w1 es
  | [], _ => trivial
  | e :: r, h => ⟨h e (List.mem_cons_self ..), Deps.of r (fun x hx => h x (List.mem_cons_of_mem _ hx))⟩
theorem RelHold.of {u : Nat → Value} {w1 : World} : ∀ (S : List Sp) (i : Nat), (∀ (j : Nat) (s : Sp), S[j]? = some s → s.holds (u (i + j)) w1) → RelHold u w1 S i
  | [], _, _ => trivial
  | s :: r, i, h => ⟨by simpa using h 0 s (by simp), RelHold.of r (i + 1) (fun j x hx => by have := h (j + 1) x (by simpa using hx); rwa [show i + (j + 1) = i + 1 + j by omega] at this)⟩
def RelInv (l : List Oper) (S : List Sp) (a : Act) (w : World) (listed : Array Bool) (a' : Act) (w' : World) : Prop :=
  Below w.heap.size w w' ∧ a'.defers = a.defers ∧ a'.tmps.size = a.tmps.size ∧
  (∀ j o, l[j]? = some o → listed.getD j false = true → ∀ e ∈ o.after, Region.binds .any e = true → listed.getD e.on false = true) ∧
  (∀ t, (∀ j o, l[j]? = some o → o.dst = some t → listed.getD j false = false) → a'.tmps[t]? = a.tmps[t]?) ∧
  ∃ u : Nat → Value, ∀ j o t, l[j]? = some o → o.dst = some t → listed.getD j false = true → a'.tmps[t]? = some (u j) ∧ (S.getD j Sp.any).holds (u j) w'
/-- The goals from operation s on. -/
def Hop (P : Program) (l : List Oper) (S : List Sp) (a : Act) (w : World) (s : Nat) : Prop :=
  ∀ (i : Nat) (o : Oper), l[i]? = some o → s ≤ i → ∀ (u : Nat → Value) (w1 : World), Below w.heap.size w w1 → Deps S u w1 o.after.toList →
    wpList P l.toArray (RelEnd a.defers o.dst (S.getD i Sp.any) w1) [o] (putDeps l.toArray u o.after.toList a) w1
theorem Hop.of {s : Nat} (h : RelGoals P l.toArray S a w (l.drop s) s) : Hop P l S a w s := fun i o ho hi u w1 hb hd => by
  have := RelGoals.at (l.drop s) s h (i - s) o (by rw [List.getElem?_drop, show s + (i - s) = i by omega]; exact ho) u w1 hb hd
  rw [show s + (i - s) = i by omega] at this
  exact this
theorem getD_set_false {listed : Array Bool} {i j : Nat} (h : i ≠ j) : (listed.setIfInBounds i true).getD j false = listed.getD j false := getD_set_ne false h
theorem eval_agree {b b' : Act} {ops : Array Oper} {o : Oper} (h : ∀ t ∈ o.looksAt ops, b.tmps[t]? = b'.tmps[t]?) : ∀ x ∈ o.op.operands, b.eval x = b'.eval x := by
  intro x hx
  cases x with
  | tmp t =>
    have ht : t ∈ o.looksAt ops := List.mem_append_left _ (List.mem_filterMap.2 ⟨.tmp t, by simpa using hx, rfl⟩)
    show b.tmps.getD t undef = b'.tmps.getD t undef
    rw [Array.getD_eq_getD_getElem?, Array.getD_eq_getD_getElem?, h t ht]
  | _ => rfl
theorem wanted_agree {b b' : Act} {ops : Array Oper} {o : Oper} (h : ∀ t ∈ o.looksAt ops, b.tmps[t]? = b'.tmps[t]?) : Region.wanted o (yielded ops b.tmps) = Region.wanted o (yielded ops b'.tmps) := by
  unfold Region.wanted
  cases hg : o.guard with
  | none => rfl
  | some gw =>
    obtain ⟨g, want⟩ := gw
    have hy : yielded ops b.tmps g = yielded ops b'.tmps g := by
      unfold yielded
      cases ht : (ops[g]?).bind (·.dst) with
      | none => rfl
      | some t =>
        have := h t (by simp [Oper.looksAt, hg, ht])
        simp only [Option.bind_some, this]
    simp only [hy]
theorem rel_step {Q : Exit → Act → World → Prop} {N : Nat} (hB : relB l.toArray N = true) (ha : a.tmps.size = N) {s : Nat} (hop : Hop P l S a w s) {listed : Array Bool} (hs : ∀ j, j < s → listed.getD j false = true) (hsz : listed.size = l.length) {a' : Act} {w' : World} (inv : RelInv l S a w listed a' w') {i : Nat} (hr : i ∈ Region.ready .any l.toArray listed) :
    wpOp P l.toArray Q i (RelInv l S a w (listed.setIfInBounds i true)) a' w' := by
  obtain ⟨hun, o, ho, hall⟩ := mem_ready.1 hr
  have hol : l[i]? = some o := by simpa using ho
  obtain ⟨⟨d, hd, hdN, huniq⟩, hsel, _, hlook⟩ := relB_spec hB ho
  obtain ⟨hbel, hdef, hsize, hclosed, hold, u, hu⟩ := inv
  have hil : i < l.length := by
    rcases Nat.lt_or_ge i l.length with h | h
    · exact h
    · simp [List.getElem?_eq_none h] at hol
  have hunf : listed.getD i false = false := by
    have : i < listed.size := by omega
    simpa [this] using hun
  have dst_at : ∀ j t, dstOf l.toArray j = some t → ∃ oj, l[j]? = some oj ∧ oj.dst = some t := fun j t h => by
    unfold dstOf at h
    rw [List.getElem?_toArray] at h
    cases hj : l[j]? with
    | none => rw [hj] at h; cases h
    | some oj => rw [hj] at h; exact ⟨oj, rfl, h⟩
  have dst_of : ∀ j oj t, l[j]? = some oj → oj.dst = some t → dstOf l.toArray j = some t := fun j oj t h h' => by
    unfold dstOf
    rw [List.getElem?_toArray, h]; exact h'
  have hdeps : Deps S u w' o.after.toList := Deps.of _ (fun e he hb => by
    have he' : e ∈ o.after := by simpa using he
    have hl := hall e he' hb
    have hlt : e.on < l.length := by
      have := (relB_spec hB ho).2.2.1 e he' hb
      omega
    obtain ⟨⟨t, ht, _⟩, _⟩ := relB_spec hB (i := e.on) (o := l[e.on]) (by simp [hlt])
    exact (hu e.on l[e.on] t (by simp [hlt]) ht hl).2)
  have hsi : s ≤ i := by
    rcases Nat.lt_or_ge i s with h | h
    · rw [hs i h] at hunf; cases hunf
    · exact h
  have hgoal := hop i o hol hsi u w' hbel hdeps
  have hF := putDeps_size (ops := l.toArray) u o.after.toList a
  generalize hFe : putDeps l.toArray u o.after.toList a = F at hgoal hF
  have agree : ∀ t ∈ o.looksAt l.toArray, F.tmps[t]? = a'.tmps[t]? := by
    intro t ht
    by_cases hex : ∃ e ∈ o.after.toList, Region.binds .any e = true ∧ dstOf l.toArray e.on = some t
    · obtain ⟨e, he, hb, hde⟩ := hex
      obtain ⟨oj, hj, hdj⟩ := dst_at _ _ hde
      have hw := (hu e.on oj t hj hdj (hall e (by simpa using he) hb)).1
      obtain ⟨⟨d', hd', hdN', huniq'⟩, _⟩ := relB_spec hB (i := e.on) (o := oj) (by simpa using hj)
      have : d' = t := by rw [hd'] at hdj; injection hdj
      subst this
      rw [hw, ← hFe]
      exact putDeps_hit u huniq' _ _ (by rw [ha]; exact hdN') ⟨e, he, hb, hde⟩
    · rw [← hFe, putDeps_miss u _ _ (fun e he hb hde => hex ⟨e, he, hb, hde⟩)]
      symm
      refine hold t (fun j oj hj hdj => ?_)
      cases hlj : listed.getD j false
      · rfl
      · rcases hlook t ht j (dst_of j oj t hj hdj) with ⟨e, he, hb, hej⟩ | ⟨oj', hoj', e, he, hb, hei⟩
        · exact absurd ⟨e, by simpa using he, hb, by rw [hej]; exact dst_of j oj t hj hdj⟩ hex
        · have : oj' = oj := by
            rw [List.getElem?_toArray, hj] at hoj'
            injection hoj' with hoj'
            exact hoj'.symm
          subst this
          have := hclosed j oj' hj hlj e he hb
          rw [hei, hunf] at this
          cases this
  have heval : execOp F.eval o = execOp a'.eval o := execOp_congr o hsel (eval_agree agree)
  have hwant := wanted_agree agree
  have fin : ∀ v w'', RelEnd a.defers o.dst (S.getD i Sp.any) w' .normal (F.put o.dst v) w'' → RelInv l S a w (listed.setIfInBounds i true) (a'.put o.dst v) w'' := by
    rintro v w'' ⟨_, _, hb2, hs⟩
    have hs' := hs d hd
    rw [hd] at hs'
    have hg : (F.put (some d) v).tmps.getD d undef = v := by
      have := put_get_eq F v (t := d) (by rw [hF.1, ha]; exact hdN)
      rw [Array.getD_eq_getD_getElem?, this]; rfl
    rw [hg] at hs'
    refine ⟨hbel.trans (hb2.mono hbel.size), by rw [put_defers, hdef], by rw [put_size, hsize], ?_, ?_, fun j => if j = i then v else u j, ?_⟩
    · intro j oj hj hlj e he hb
      by_cases hji : i = j
      · subst hji
        rw [hol] at hj
        injection hj with hj
        subst hj
        exact getD_set_true (hall e he hb)
      · rw [getD_set_false hji] at hlj
        exact getD_set_true (hclosed j oj hj hlj e he hb)
    · intro t ht
      have hne : o.dst ≠ some t := fun he => by
        have := ht i o hol he
        rw [show (listed.setIfInBounds i true).getD i false = true by simp [hsz, hil]] at this
        cases this
      rw [put_get_ne _ _ hne]
      refine hold t (fun j oj hj hdj => ?_)
      have hji : i ≠ j := fun e => by
        subst e
        rw [hol] at hj
        injection hj with hj
        subst hj
        exact hne hdj
      have := ht j oj hj hdj
      rwa [getD_set_false hji] at this
    · intro j oj t hj hdj hlj
      by_cases hji : j = i
      · subst hji
        rw [hol] at hj
        injection hj with hj
        subst hj
        rw [hd] at hdj
        injection hdj with hdj
        subst hdj
        simp only [if_true]
        rw [hd]
        exact ⟨put_get_eq _ _ (by rw [hsize, ha]; exact hdN), hs'⟩
      · rw [getD_set_false (Ne.symm hji)] at hlj
        simp only [if_neg hji]
        have hne : o.dst ≠ some t := fun he => by
          rw [hd] at he
          injection he with he
          subst he
          exact hji (huniq j (dst_of j oj d hj hdj))
        obtain ⟨h1, h2⟩ := hu j oj t hj hdj hlj
        exact ⟨(put_get_ne _ _ hne).trans h1, (S.getD j Sp.any).stays _ _ _ h2 hb2⟩
  have nolets : ¬ LetsOut (RelEnd a.defers o.dst (S.getD i Sp.any) w') := by
    rintro ⟨_, _, h, _⟩
    cases h
  unfold wpOp
  simp only [ho]
  simp only [wpList, hwant] at hgoal
  by_cases hw : Region.wanted o (yielded l.toArray a'.tmps) = true
  · rw [if_pos hw] at hgoal ⊢
    rcases hgoal with h | ⟨_, h⟩
    · left
      unfold Oper.wp at h ⊢
      rw [heval] at h
      generalize (execOp a'.eval o).run P w' = r at h ⊢
      cases r with
      | ok n w'' =>
        cases n <;> simp only [Oper.upon] at h ⊢
        case value u => exact fin _ _ h
        case skip => exact fin _ _ h
        case defer x =>
          exfalso
          obtain ⟨_, h2, _⟩ := h
          rw [put_defers] at h2
          have := congrArg List.length h2
          simp only [List.length_cons, hF.2] at this
          omega
        case enter f args =>
          refine Calls.mono h fun e w'' he => ?_
          cases e with
          | returned u => exact fin _ _ he
          | panicked c => cases he.1
          | outgrown => exact absurd he nolets
        case row row args => exact Rows.mono h fun u w'' he => fin _ _ he
      | halt x w'' =>
        cases x <;> simp only [Oper.upon] at h ⊢
        case panic u => cases h.1
    · exact absurd h nolets
  · rw [if_neg hw] at hgoal ⊢
    exact fin _ _ hgoal
theorem rel_any {Q : Exit → Act → World → Prop} {N : Nat} (hB : relB l.toArray N = true) (ha : a.tmps.size = N) (hS : S.length = l.length) {s : Nat} (hop : Hop P l S a w s)
    (hend : ∀ u w1, Below w.heap.size w w1 → RelHold u w1 S 0 → Q .normal (putAll u l 0 a) w1) :
    ∀ (f : Nat) (listed : Array Bool) (a' : Act) (w' : World), (∀ j, j < s → listed.getD j false = true) → listed.size = l.length → listed.toList.count false = f → RelInv l S a w listed a' w' → wpAny P .any l.toArray Q f listed a' w'
  | 0, listed, a', w', hs, hsz, hc, inv => by
    have hall : ∀ j, j < l.length → listed.getD j false = true := fun j hj => by
      have h1 : false ∉ listed.toList := List.count_eq_zero.1 hc
      have hlt : j < listed.size := by omega
      cases hb : listed[j]
      · exact absurd (by rw [← hb]; simp) h1
      · simp [hlt, hb]
    have hready : Region.ready .any l.toArray listed = [] := by
      rw [List.eq_nil_iff_forall_not_mem]
      intro j hj
      obtain ⟨h0, o, ho, _⟩ := mem_ready.1 hj
      have hj' : j < l.length := by
        rcases Nat.lt_or_ge j l.length with h | h
        · exact h
        · simp [List.getElem?_eq_none h] at ho
      have := hall j hj'
      have hlt : j < listed.size := by omega
      simp [hlt] at this h0
      rw [this] at h0
      cases h0
    refine ⟨hready, ?_⟩
    obtain ⟨hbel, hdef, hsize, _, hold, u, hu⟩ := inv
    have e : a' = putAll u l 0 a := by
      have h1 := putAll_size u l 0 a
      obtain ⟨tm, df⟩ := a'
      generalize hFe : putAll u l 0 a = F at h1
      obtain ⟨tm2, df2⟩ := F
      simp only at hdef hsize h1
      have : tm = tm2 := by
        apply Array.ext_getElem?
        intro t
        have hF2 : tm2[t]? = (putAll u l 0 a).tmps[t]? := by rw [hFe]
        rw [hF2]
        by_cases hex : ∃ (j : Nat) (o : Oper), l[j]? = some o ∧ o.dst = some t
        · obtain ⟨j, o, hj, hd⟩ := hex
          obtain ⟨⟨d, hd', hdN, huniq⟩, _⟩ := relB_spec hB (i := j) (o := o) (by simpa using hj)
          have hdt : d = t := by rw [hd'] at hd; injection hd
          subst hdt
          have hj' : j < l.length := by
            rcases Nat.lt_or_ge j l.length with h | h
            · exact h
            · simp [List.getElem?_eq_none h] at hj
          have h2 := putAll_hit u l 0 a j o (t := d) (by rw [ha]; exact hdN) hj hd (fun k x hk hx => huniq k (by unfold dstOf; rw [List.getElem?_toArray, hk]; exact hx))
          rw [Nat.zero_add] at h2
          rw [h2]
          exact (hu j o d hj hd (hall j hj')).1
        · rw [putAll_miss u l 0 a (fun (o : Oper) ho hd => by
            obtain ⟨j, hj, rfl⟩ := List.getElem_of_mem ho
            exact hex ⟨j, l[j], by simp [hj], hd⟩)]
          exact hold t (fun j o hj hd => absurd ⟨j, o, hj, hd⟩ hex)
      rw [this, hdef, h1.2]
    rw [e]
    refine hend u w' hbel (RelHold.of S 0 (fun j s hj => ?_))
    have hj' : j < S.length := by
      rcases Nat.lt_or_ge j S.length with h | h
      · exact h
      · simp [List.getElem?_eq_none h] at hj
    have hjl : j < l.length := by omega
    obtain ⟨⟨d, hd', _⟩, _⟩ := relB_spec hB (i := j) (o := l[j]) (by simp [hjl])
    have := (hu j l[j] d (by simp [hjl]) hd' (hall j hjl)).2
    rw [Nat.zero_add]
    rw [List.getD_eq_getElem?_getD, hj] at this
    exact this
  | f + 1, listed, a', w', hs, hsz, hc, inv => by
    refine ⟨fun h0 => ?_, fun i hi => ?_⟩
    · exfalso
      have hall : ∀ j, j < l.length → listed.getD j false = true := by
        intro j
        induction j using Nat.strongRecOn with
        | ind j ih =>
          intro hj
          cases hlj : listed.getD j false
          · exfalso
            have hlt : j < listed.size := by omega
            have : j ∈ Region.ready .any l.toArray listed := mem_ready.2 ⟨by simpa [hlt] using hlj, l[j], by simp [hj], fun e he hb => by
              have := (relB_spec hB (i := j) (o := l[j]) (by simp [hj])).2.2.1 e he hb
              exact ih e.on this (by omega)⟩
            rw [h0] at this
            cases this
          · rfl
      have : listed.toList.count false = 0 := List.count_eq_zero.2 (fun hm => by
        obtain ⟨j, hj, he⟩ := List.getElem_of_mem hm
        have hj' : j < listed.size := by simpa using hj
        have := hall j (by omega)
        simp [hj'] at this
        simp [this] at he)
      omega
    · refine wpOp_mono (fun a'' w'' h => ?_) (rel_step hB ha hop hs hsz inv hi)
      refine rel_any hB ha hS hop hend f _ a'' w'' (fun j hj => getD_set_true (hs j hj)) (by simpa using hsz) ?_ h
      obtain ⟨hun, o, ho, _⟩ := mem_ready.1 hi
      have hil : i < listed.size := by
        have : i < l.length := by
          rcases Nat.lt_or_ge i l.length with h | h
          · exact h
          · simp [List.getElem?_eq_none h] at ho
        omega
      have hun' : listed[i] = false := by simpa [hil] using hun
      rw [Array.toList_setIfInBounds, List.count_set (by simpa using hil)]
      simp [hun', hc]
end
/-- Each operation by itself; no order is looked at. -/
theorem wp_region_rel {P : Program} {id : Nat} {Q : Exit → Act → World → Prop} {a : Act} {w : World} {l : List Oper} (S : List Sp) (N : Nat) (hm : P.follows .mixedOrders = true) (hB : relB l.toArray N = true) (ha : a.tmps.size = N) (hS : S.length = l.length)
    (hop : RelGoals P l.toArray S a w l 0) (hend : ∀ u w1, Below w.heap.size w w1 → RelHold u w1 S 0 → Q .normal (putAll u l 0 a) w1) : (Code.region id l.toArray true).wp P Q a w := by
  refine wp_region_any hm ?_
  have := rel_any (Q := Q) hB ha hS (Hop.of (s := 0) hop) hend l.length (Array.replicate l.length false) a { w with drawn := w.drawn + 1 } (fun j hj => by omega) (by simp) (by simp)
    ⟨(Below.refl _ _).drew, rfl, rfl, fun j o _ hl => (by rw [getD_replicate_false] at hl; cases hl), fun _ _ => rfl, fun _ => undef, fun j o t _ _ hl => (by rw [getD_replicate_false] at hl; cases hl)⟩
  simpa using this
end Go.Proofs.YtiedkcijjfmhaaaGreatDoor
namespace Go.Proofs.YtiedkcijjfmhaaaGreatDoor
open Go.RowKit

/-- Blocks from number B on, each known whole, no two the same. -/
def Blks (w : World) (B : Nat) : List (Nat × Array Value) → Prop
  | [] => True
  | x :: r => (Blk w x.1 x.2 ∧ B ≤ x.1 ∧ ∀ y ∈ r, y.1 ≠ x.1) ∧ Blks w B r
section
variable {w w' : World} {B : Nat} {l : List (Nat × Array Value)}
theorem Blks.kept {q : Option Nat} (h : Blks w B l) (k : Kept q w.heap.size w w') (hq : ∀ g, q = some g → g < B) : Blks w' B l := by
  induction l with
  | nil => trivial
  | cons x r ih =>
    obtain ⟨⟨h1, h2, h3⟩, h4⟩ := h
    exact ⟨⟨h1.kept k h1.lt (fun e => by have := hq _ e; omega), h2, h3⟩, ih h4⟩
theorem Blks.far {q : Nat} (h : Blks w B l) (k : Kept (some q) w.heap.size w w') (hq : ∀ y ∈ l, y.1 ≠ q) : Blks w' B l := by
  induction l with
  | nil => trivial
  | cons x r ih =>
    obtain ⟨⟨h1, h2, h3⟩, h4⟩ := h
    exact ⟨⟨h1.kept k h1.lt (fun e => by injection e with e; exact hq x (List.mem_cons_self ..) e.symm), h2, h3⟩, ih h4 (fun y hy => hq y (List.mem_cons_of_mem _ hy))⟩
theorem Blks.lt (h : Blks w B l) : ∀ y ∈ l, y.1 < w.heap.size := by
  induction l with
  | nil => intro y hy; cases hy
  | cons x r ih =>
    intro y hy
    rcases List.mem_cons.1 hy with rfl | hy
    · exact h.1.1.lt
    · exact ih h.2 y hy
end
theorem kept_set (w : World) (g off : Nat) (v : Value) : Kept (some g) w.heap.size w (w.setCell ⟨g, off, none⟩ v) := (Kept.refl (some g) _ w).setCell (q := ⟨g, off, none⟩) (.inr rfl) v
/-- The program's reader, and blocks of the call's own. -/
structure EnvP (p : Option Nat) (S : Rd) (w w' : World) (l : List (Nat × Array Value)) : Prop where
  low : ∀ g, p = some g → g < w.heap.size
  kept : Kept p w.heap.size w w'
  rd : RdP w' p S
  blks : Blks w' w.heap.size l
section
variable {p : Option Nat} {S S' : Rd} {w w1 w2 : World} {l : List (Nat × Array Value)} {g g0 : Nat} {cs c0 cs' : Array Value}
theorem EnvP.start (r : RdP w p S) : EnvP p S w w [] := ⟨fun _ hg => r.lt hg, Kept.refl _ _ _, r, trivial⟩
theorem EnvP.size (h : EnvP p S w w1 l) : w.heap.size ≤ w1.heap.size := h.kept.size
theorem EnvP.call (h : EnvP p S w w1 l) (r : RdP w2 p S') (k : Kept p w1.heap.size w1 w2) : EnvP p S' w w2 l :=
  ⟨h.low, h.kept.then_kept k h.size, r, h.blks.kept k h.low⟩
theorem EnvP.below (h : EnvP p S w w1 l) (k : Below w1.heap.size w1 w2) : EnvP p S w w2 l :=
  ⟨h.low, h.kept.then_below k h.size, h.rd.below k, h.blks.kept (q := none) (.of_below k) (fun _ e => by cases e)⟩
theorem EnvP.alloc (h : EnvP p S w w1 l) (t : TypeId) (cs : Array Value) : EnvP p S w (w1.alloc (.cells cs t)) ((w1.heap.size, cs) :: l) := by
  have h' := h.below ((Below.refl _ _).alloc (Nat.le_refl _) (.cells cs t))
  exact ⟨h.low, h'.kept, h'.rd, ⟨Blk.new _ _ _, h.size, fun y hy => by have := h.blks.lt y hy; simp only; omega⟩, h'.blks⟩
theorem EnvP.own (h : EnvP p S w w1 l) (hg : w.heap.size ≤ g) (k : Kept (some g) w1.heap.size w1 w2) : Kept p w.heap.size w w2 ∧ RdP w2 p S :=
  ⟨h.kept.trans (k.one h.size (.inl hg)), h.rd.kept k (fun a b ha hb => by injection hb with hb; have := h.low a ha; omega)⟩
theorem EnvP.put0 (h : EnvP p S w w1 ((g, cs) :: l)) (b : Blk w2 g cs') (k : Kept (some g) w1.heap.size w1 w2) : EnvP p S w w2 ((g, cs') :: l) := by
  obtain ⟨⟨h1, h2, h3⟩, h4⟩ := h.blks
  obtain ⟨a, r⟩ := h.own h2 k
  exact ⟨h.low, a, r, ⟨b, h2, h3⟩, h4.far k h3⟩
theorem EnvP.put1 (h : EnvP p S w w1 ((g0, c0) :: (g, cs) :: l)) (b : Blk w2 g cs') (k : Kept (some g) w1.heap.size w1 w2) : EnvP p S w w2 ((g0, c0) :: (g, cs') :: l) := by
  obtain ⟨⟨a1, a2, a3⟩, ⟨h1, h2, h3⟩, h4⟩ := h.blks
  obtain ⟨a, r⟩ := h.own h2 k
  have hne := a3 (g, cs) (List.mem_cons_self ..)
  refine ⟨h.low, a, r, ⟨a1.kept k a1.lt (fun e => by injection e with e; exact hne e), a2, fun y hy => ?_⟩, ⟨b, h2, h3⟩, h4.far k h3⟩
  rcases List.mem_cons.1 hy with rfl | hy
  · exact hne
  · exact a3 y (List.mem_cons_of_mem _ hy)
theorem EnvP.b0 (h : EnvP p S w w1 ((g, cs) :: l)) : Blk w1 g cs := h.blks.1.1
theorem EnvP.b1 (h : EnvP p S w w1 ((g0, c0) :: (g, cs) :: l)) : Blk w1 g cs := h.blks.2.1.1
theorem EnvP.store0 (h : EnvP p S w w1 ((g, cs) :: l)) (off : Nat) (v : Value) : EnvP p S w (w1.setCell ⟨g, off, none⟩ v) ((g, cs.setIfInBounds off v) :: l) := h.put0 (h.b0.store off v) (kept_set w1 g off v)
theorem EnvP.store1 (h : EnvP p S w w1 ((g0, c0) :: (g, cs) :: l)) (off : Nat) (v : Value) : EnvP p S w (w1.setCell ⟨g, off, none⟩ v) ((g0, c0) :: (g, cs.setIfInBounds off v) :: l) := h.put1 (h.b1.store off v) (kept_set w1 g off v)
theorem EnvP.as (h : EnvP p S w w1 ((g, cs) :: l)) (e : cs = cs') : EnvP p S w w1 ((g, cs') :: l) := e ▸ h
theorem EnvP.state (h : EnvP p S w w1 l) (e : S = S') : EnvP p S' w w1 l := e ▸ h
end
/-- The reference's reader, and blocks of the call's own. -/
structure EnvR (p : Nat) (S : Rd) (w w' : World) (l : List (Nat × Array Value)) : Prop where
  low : p < w.heap.size
  kept : Kept (some p) w.heap.size w w'
  rd : RdR w' p S
  blks : Blks w' w.heap.size l
section
variable {p : Nat} {S S' : Rd} {w w1 w2 : World} {l : List (Nat × Array Value)} {g g0 : Nat} {cs c0 cs' : Array Value}
theorem EnvR.start (r : RdR w p S) : EnvR p S w w [] := ⟨r.lt, Kept.refl _ _ _, r, trivial⟩
theorem EnvR.size (h : EnvR p S w w1 l) : w.heap.size ≤ w1.heap.size := h.kept.size
theorem EnvR.call (h : EnvR p S w w1 l) (r : RdR w2 p S') (k : Kept (some p) w1.heap.size w1 w2) : EnvR p S' w w2 l :=
  ⟨h.low, h.kept.then_kept k h.size, r, h.blks.kept k (fun g e => by injection e with e; have := h.low; omega)⟩
theorem EnvR.below (h : EnvR p S w w1 l) (k : Below w1.heap.size w1 w2) : EnvR p S w w2 l :=
  ⟨h.low, h.kept.then_below k h.size, h.rd.below k, h.blks.kept (q := none) (.of_below k) (fun _ e => by cases e)⟩
theorem EnvR.alloc (h : EnvR p S w w1 l) (t : TypeId) (cs : Array Value) : EnvR p S w (w1.alloc (.cells cs t)) ((w1.heap.size, cs) :: l) := by
  have h' := h.below ((Below.refl _ _).alloc (Nat.le_refl _) (.cells cs t))
  exact ⟨h.low, h'.kept, h'.rd, ⟨Blk.new _ _ _, h.size, fun y hy => by have := h.blks.lt y hy; simp only; omega⟩, h'.blks⟩
theorem EnvR.own (h : EnvR p S w w1 l) (hg : w.heap.size ≤ g) (k : Kept (some g) w1.heap.size w1 w2) : Kept (some p) w.heap.size w w2 ∧ RdR w2 p S :=
  ⟨h.kept.trans (k.one h.size (.inl hg)), h.rd.kept k (fun e => by injection e with e; have := h.low; omega)⟩
theorem EnvR.put0 (h : EnvR p S w w1 ((g, cs) :: l)) (b : Blk w2 g cs') (k : Kept (some g) w1.heap.size w1 w2) : EnvR p S w w2 ((g, cs') :: l) := by
  obtain ⟨⟨h1, h2, h3⟩, h4⟩ := h.blks
  obtain ⟨a, r⟩ := h.own h2 k
  exact ⟨h.low, a, r, ⟨b, h2, h3⟩, h4.far k h3⟩
theorem EnvR.put1 (h : EnvR p S w w1 ((g0, c0) :: (g, cs) :: l)) (b : Blk w2 g cs') (k : Kept (some g) w1.heap.size w1 w2) : EnvR p S w w2 ((g0, c0) :: (g, cs') :: l) := by
  obtain ⟨⟨a1, a2, a3⟩, ⟨h1, h2, h3⟩, h4⟩ := h.blks
  obtain ⟨a, r⟩ := h.own h2 k
  have hne := a3 (g, cs) (List.mem_cons_self ..)
  refine ⟨h.low, a, r, ⟨a1.kept k a1.lt (fun e => by injection e with e; exact hne e), a2, fun y hy => ?_⟩, ⟨b, h2, h3⟩, h4.far k h3⟩
  rcases List.mem_cons.1 hy with rfl | hy
  · exact hne
  · exact a3 y (List.mem_cons_of_mem _ hy)
theorem EnvR.b0 (h : EnvR p S w w1 ((g, cs) :: l)) : Blk w1 g cs := h.blks.1.1
theorem EnvR.b1 (h : EnvR p S w w1 ((g0, c0) :: (g, cs) :: l)) : Blk w1 g cs := h.blks.2.1.1
theorem EnvR.store0 (h : EnvR p S w w1 ((g, cs) :: l)) (off : Nat) (v : Value) : EnvR p S w (w1.setCell ⟨g, off, none⟩ v) ((g, cs.setIfInBounds off v) :: l) := h.put0 (h.b0.store off v) (kept_set w1 g off v)
theorem EnvR.store1 (h : EnvR p S w w1 ((g0, c0) :: (g, cs) :: l)) (off : Nat) (v : Value) : EnvR p S w (w1.setCell ⟨g, off, none⟩ v) ((g0, c0) :: (g, cs.setIfInBounds off v) :: l) := h.put1 (h.b1.store off v) (kept_set w1 g off v)
theorem EnvR.as (h : EnvR p S w w1 ((g, cs) :: l)) (e : cs = cs') : EnvR p S w w1 ((g, cs') :: l) := e ▸ h
theorem EnvR.state (h : EnvR p S w w1 l) (e : S = S') : EnvR p S' w w1 l := e ▸ h
end
end Go.Proofs.YtiedkcijjfmhaaaGreatDoor
namespace Go.Proofs.YtiedkcijjfmhaaaGreatDoor
open Go.RowKit

/-- A slice of a call's own, as a property. -/
def Sp.own {α : Type} (B : Nat) (e : TypeId) (k : Nat) (cs : α → List Value) (l : List α) : Sp := ⟨fun v w => w.ownsRow B e k v l.length (l.flatMap cs), fun _ _ _ h hb => own_below h hb⟩
end Go.Proofs.YtiedkcijjfmhaaaGreatDoor
