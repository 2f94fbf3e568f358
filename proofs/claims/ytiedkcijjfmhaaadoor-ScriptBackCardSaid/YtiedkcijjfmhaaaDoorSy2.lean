/-
  Lemmas (walks and plain laws), in one text.
-/
import Derived.Test.YtiedkcijjfmhaaaDoorSy1
import Derived.ChangeKeysEq
import Derived.Laws.StructEq
import Derived.Test.YtiedkcijjfmhaaaDoorProg
import Derived.Deep.CutBlock
import Derived.Deep.DeepCutAuto
import Derived.IntWalk
import Derived.Outline
namespace Go.Proofs.YtiedkcijjfmhaaaDoor
open Go.RowKit

section
variable {P : Program} {w : World}
theorem Str.agg {ty : TypeId} {n : Nat} (S : Str P ty n) (w : World) : (isAgg ty).run P w = .ok true w := by
  obtain ⟨d, h1, h2⟩ := S.desc
  unfold isAgg
  rw [Sem.run_bind, run_underlying h1 w]
  cases d <;> simp_all
theorem Str.sizeOf {ty : TypeId} {n : Nat} (S : Str P ty n) (w : World) : (Go.sizeOf ty).run P w = .ok n w := by
  have h := S.size
  cases hq : P.info? ty with
  | none => rw [hq] at h; cases h
  | some i =>
    rw [hq] at h
    simp at h
    simp [Go.sizeOf, typeInfo, hq, h]
theorem run_loadVar_at (g off : Nat) (cs : Array Value) (ty : TypeId) (hcell : ∀ (j : Nat) u, cs[j]? = some u → w.cell? ⟨g, off + j, none⟩ = some u) {n : Nat} (S : Str P ty n) (hn : cs.size = n) :
    (loadVar ty ⟨g, off, none⟩).run P w = .ok (.agg cs) w := by
  have hl : (loadCells ⟨g, off, none⟩ cs.toList.length).run P w = .ok cs.toList.toArray w :=
    run_loadCells_list (P := P) w ⟨g, off, none⟩ cs.toList (fun j v hv => by
      rw [add_lit']
      exact hcell j v (by simpa using hv))
  simp only [Array.length_toList, Array.toArray_toList, hn] at hl
  simp only [loadVar, Sem.run_bind, S.agg, S.sizeOf, Result.andThen_ok, if_true, hl, Sem.run_pure]
theorem wpList_loadAt {ops : Array Oper} {rest : List Oper} {o : Oper} {a : Act} {Q : Exit → Act → World → Prop} (hgd : o.guard = none) (ty : TypeId) (x : Operand) (ho : o.op = .load ty x)
    (g off : Nat) (hx : a.eval x = .pointer (some ⟨g, off, none⟩)) (cs : Array Value) (hcell : ∀ (j : Nat) u, cs[j]? = some u → w.cell? ⟨g, off + j, none⟩ = some u) {n : Nat} (S : Str P ty n) (hn : cs.size = n)
    (h : wpList P ops Q rest (a.put o.dst (.agg cs)) w) : wpList P ops Q (o :: rest) a w := by
  refine wpList_plain hgd fun K hK => ?_
  unfold Oper.wp execOp
  simp only [ho, hx, Instr.loadAt, Instr.sureAddr, Sem.run_bind, Sem.run_pure, Result.andThen_ok, run_loadVar_at g off cs ty hcell S hn]
  exact hK _ _ h

theorem wpList_g {ops : Array Oper} {rest : List Oper} {o : Oper} {a : Act} {Q : Exit → Act → World → Prop} (hw : Region.wanted o (yielded ops a.tmps) = true)
    (h : ∀ K : Act → World → Prop, (∀ a w, wpList P ops Q rest a w → K a w) → o.wp P a w K Q) : wpList P ops Q (o :: rest) a w := by
  rw [wpList, if_pos hw]
  exact .inl (h _ fun _ _ h => h)
theorem wlG {ops : Array Oper} {rest : List Oper} {o : Oper} {a : Act} {Q : Exit → Act → World → Prop} (hw : Region.wanted o (yielded ops a.tmps) = true) (ty : TypeId) (x : Operand) (ho : o.op = .load ty x)
    (g off : Nat) (hx : a.eval x = .pointer (some ⟨g, off, none⟩)) (cs : Array Value) (hcell : ∀ (j : Nat) u, cs[j]? = some u → w.cell? ⟨g, off + j, none⟩ = some u) {n : Nat} (S : Str P ty n) (hn : cs.size = n)
    (h : wpList P ops Q rest (a.put o.dst (.agg cs)) w) : wpList P ops Q (o :: rest) a w := by
  refine wpList_g hw fun K hK => ?_
  unfold Oper.wp execOp
  simp only [ho, hx, Instr.loadAt, Instr.sureAddr, Sem.run_bind, Sem.run_pure, Result.andThen_ok, run_loadVar_at g off cs ty hcell S hn]
  exact hK _ _ h
theorem slG {ops : Array Oper} {rest : List Oper} {o : Oper} {a : Act} {Q : Exit → Act → World → Prop} (ty : TypeId) (x : Operand) (_ : o.op = .load ty x) (h : Stop (wpList P ops Q (o :: rest) a w)) : wpList P ops Q (o :: rest) a w := h
theorem Blk.all {g : Nat} {cs : Array Value} (h : Blk w g cs) (j : Nat) (u : Value) (hu : cs[j]? = some u) : w.cell? ⟨g, 0 + j, none⟩ = some u := by rw [Nat.zero_add]; exact h.cell hu
def putAt (cs : Array Value) (j : Nat) : List Value → Array Value
  | [] => cs
  | v :: r => putAt (cs.setIfInBounds j v) (j + 1) r
theorem putAt_size : ∀ (vs : List Value) (cs : Array Value) (j : Nat), (putAt cs j vs).size = cs.size
  | [], _, _ => rfl
  | v :: r, cs, j => by rw [putAt, putAt_size r]; simp
theorem putAt_far : ∀ (vs : List Value) (cs : Array Value) (j k : Nat), k < j ∨ j + vs.length ≤ k → (putAt cs j vs)[k]? = cs[k]?
  | [], _, _, _, _ => rfl
  | v :: r, cs, j, k, h => by
    simp only [List.length_cons] at h
    rw [putAt, putAt_far r _ _ _ (by omega), Array.getElem?_setIfInBounds_ne (by omega)]
theorem putAt_in : ∀ (vs : List Value) (cs : Array Value) (j i : Nat), j + vs.length ≤ cs.size → i < vs.length → (putAt cs j vs)[j + i]? = vs[i]?
  | [], _, _, _, _, h => by simp at h
  | v :: r, cs, j, 0, hs, _ => by
    simp only [List.length_cons] at hs
    rw [putAt, putAt_far r _ _ _ (by omega), Nat.add_zero, Array.getElem?_setIfInBounds_self_of_lt (by omega)]; rfl
  | v :: r, cs, j, i + 1, hs, h => by
    simp only [List.length_cons] at hs h
    have := putAt_in r (cs.setIfInBounds j v) (j + 1) i (by simp; omega) (by omega)
    rw [putAt, show j + (i + 1) = j + 1 + i by omega, this]; rfl
theorem run_storeCells_at (g off : Nat) : ∀ (vs : List Value) (i : Nat) (cs : Array Value) (w : World), Blk w g cs → off + i + vs.length ≤ cs.size → (∀ v ∈ vs, v.oneCell' = true) →
    ∃ w', (storeCells ⟨g, off, none⟩ vs i).run P w = .ok () w' ∧ Blk w' g (putAt cs (off + i) vs) ∧ Kept (some g) w.heap.size w w'
  | [], i, cs, w, hb, _, _ => ⟨w, rfl, hb, Kept.refl _ _ _⟩
  | v :: r, i, cs, w, hb, hl, h1 => by
    simp only [List.length_cons] at hl
    have hi : off + i < cs.size := by omega
    have hcell : w.cell? ⟨g, off + i, none⟩ = some cs[off + i] := hb.cell (by simp [hi])
    have hfro := hb.frozen (off + i)
    have hst : (store ((⟨g, off, none⟩ : Addr).add i) v).run P w = .ok () (w.setCell ⟨g, off + i, none⟩ v) := by
      rw [add_lit', run_store P w _ v _ (h1 v (by simp)), hcell]
      simp [hfro]
    obtain ⟨w', hr, hb', hk⟩ := run_storeCells_at g off r (i + 1) _ _ (hb.store (off + i) v) (by simp; omega) (fun x hx => h1 x (by simp [hx]))
    have k1 : Kept (some g) w.heap.size w (w.setCell ⟨g, off + i, none⟩ v) := Kept.setCell (q := ⟨g, off + i, none⟩) (Kept.refl (some g) _ w) (.inr rfl) v
    refine ⟨w', ?_, hb', k1.trans ?_⟩
    · simp only [storeCells, Sem.run_bind, hst, Result.andThen_ok, hr]
    · simpa [World.setCell] using hk
theorem wpList_storeAt {ops : Array Oper} {rest : List Oper} {o : Oper} {a : Act} {Q : Exit → Act → World → Prop} (hgd : o.guard = none) (ty : TypeId) (x y : Operand) (ho : o.op = .store ty x y)
    (g off : Nat) (cells : Array Value) (hx : a.eval x = .pointer (some ⟨g, off, none⟩)) (hy : a.eval y = .agg cells) (old : Array Value) (hb : Blk w g old) {n : Nat} (S : Str P ty n) (hn : cells.size = n)
    (hold : off + cells.size ≤ old.size) (h1 : ∀ v ∈ cells.toList, v.oneCell' = true)
    (h : ∀ w', Blk w' g (putAt old off cells.toList) → Kept (some g) w.heap.size w w' → wpList P ops Q rest (a.put o.dst undef) w') : wpList P ops Q (o :: rest) a w := by
  refine wpList_plain hgd fun K hK => ?_
  obtain ⟨w', hr, hb', hk⟩ := run_storeCells_at (P := P) g off cells.toList 0 old w hb (by simpa using hold) h1
  have hs : (storeVar ty ⟨g, off, none⟩ (.agg cells)).run P w = .ok () w' := by
    simp only [storeVar, Sem.run_bind, S.sizeOf, Result.andThen_ok, Value.cells, hn, ne_eq, not_true_eq_false, if_false, hr]
  unfold Oper.wp execOp
  simp only [ho, hx, hy, Instr.storeAt, Instr.sureAddr, Sem.run_bind, Sem.run_pure, Result.andThen_ok, hs]
  exact hK _ _ (h w' hb' hk)
theorem run_index_agg {T elem : TypeId} {len n : Nat} (hT : P.underlying T = some (.array len elem)) (S : Str P elem n) (cs : Array Value) (k : Nat) (hk : k < len) (w : World) :
    (Instr.index T (.agg cs) (.int .i64 k)).run P w = .ok (.agg (cs.extract (k * n) (k * n + n))) w := by
  simp [Instr.index, asIntOf, run_underlying hT, S.sizeOf, part, S.agg, Sem.run_bind, hk]
end
theorem farr_extract {f : List Val} {k : Nat} (h : k < f.length) : (farr f).extract (k * 3) (k * 3 + 3) = #[.int .i64 f[k].kind, .int .i64 f[k].n, .string (str f[k].s)] := by
  obtain ⟨h0, h1, h2⟩ := farr_get h
  have hs := farr_size f
  apply Array.ext_getElem?
  intro i
  rw [Array.getElem?_extract]
  rcases i with _ | _ | _ | i
  · simp [h0]; omega
  · simp [h1]; omega
  · simp [h2]; omega
  · simp; omega
theorem strV : Str Tryd.prog 25 3 := ⟨⟨_, Tryd.underlying25, rfl⟩, by kernel_rfl⟩
theorem strF : Str Tryd.prog 26 24 := ⟨⟨_, Tryd.underlying26, rfl⟩, by kernel_rfl⟩
theorem strP : Str Tryd.prog 28 26 := ⟨⟨_, Tryd.underlying28, rfl⟩, by kernel_rfl⟩
theorem index_farr {f : List Val} (hf : f.length = 8) (k : Nat) (hk : k < 8) (w : World) :
    (Instr.index 26 (.agg (farr f)) (.int .i64 k)).run Tryd.prog w = .ok (.agg #[.int .i64 (f[k]'(by omega)).kind, .int .i64 (f[k]'(by omega)).n, .string (str (f[k]'(by omega)).s)]) w := by
  rw [run_index_agg Tryd.underlying26 strV (farr f) k hk w, farr_extract (by omega)]

/-! Equality. -/
def eqF (d : Nat) (xs ys : Array Value) : List (Bool × TypeId × Nat) → Sem Bool
  | [] => pure true
  | (b, t, off) :: r => if b = false then do
      let a ← part t xs off
      let c ← part t ys off
      let q ← Op.equalIn d t a c
      if (!q) = true then pure false else eqF d xs ys r
    else eqF d xs ys r
theorem eqFields_eqF (d : Nat) (xs ys : Array Value) : ∀ fs : List Field, Op.eqFields d xs ys fs = eqF d xs ys (fs.map fun f => (f.name == "_", f.type, f.offset))
  | [] => rfl
  | f :: fs => by
    rw [List.map_cons, eqF, Op.eqFields, eqFields_eqF d xs ys fs]
    by_cases h : f.name = "_"
    · simp [h]
    · have h' : (f.name == "_") = false := by simpa using h
      simp [h, h']
section
variable {P : Program} {w : World}
theorem part_agg {ty : TypeId} {n : Nat} (S : Str P ty n) (xs : Array Value) (off : Nat) : (part ty xs off).run P w = .ok (.agg (xs.extract off (off + n))) w := by
  simp [part, S.agg, S.sizeOf, Sem.run_bind]
theorem eqF_nil (d : Nat) (xs ys : Array Value) : (eqF d xs ys []).run P w = .ok true w := by simp [eqF]
theorem eqF_cons (d : Nat) (xs ys : Array Value) (t : TypeId) (off : Nat) (r : List (Bool × TypeId × Nat)) {a b : Value} {p q : Bool} (ha : (part t xs off).run P w = .ok a w) (hb : (part t ys off).run P w = .ok b w)
    (he : (Op.equalIn d t a b).run P w = .ok p w) (hr : (eqF d xs ys r).run P w = .ok q w) : (eqF d xs ys ((false, t, off) :: r)).run P w = .ok (p && q) w := by
  simp only [eqF, if_true, Sem.run_bind, ha, hb, he, Result.andThen_ok, Sem.run_ite, hr, Sem.run_pure]
  cases p <;> simp
theorem eqS (d : Nat) {t : TypeId} (xs ys : Array Value) (l : List (Bool × TypeId × Nat)) (ht : P.underlying t = some (.struct (P.fieldsOf t))) (hp : P.stoodInHeld t = false) (hl : (P.fieldsOf t).toList.map (fun f => (f.name == "_", f.type, f.offset)) = l)
    {q : Bool} (h : (eqF d xs ys l).run P w = .ok q w) : (Op.equalIn (d + 1) t (.agg xs) (.agg ys)).run P w = .ok q w := by
  rw [run_equalIn_struct w d t xs ys ht hp, eqFields_eqF, hl, h]
end
theorem plain3 : Tryd.prog.plainKey 3 = true := by kernel_rfl
theorem plainS : Tryd.prog.plainKey 9 = true := by kernel_rfl
theorem plain32 : Tryd.prog.plainKey 23 = true := by kernel_rfl
abbrev Val.c3 (x : Val) : Array Value := #[.int .i64 x.kind, .int .i64 x.n, .string (str x.s)]
theorem f_val : (Tryd.prog.fieldsOf 25).toList.map (fun f => (f.name == "_", f.type, f.offset)) = [(false, 3, 0), (false, 3, 1), (false, 9, 2)] := by kernel_rfl
theorem u_val : Tryd.prog.underlying 25 = some (.struct (Tryd.prog.fieldsOf 25)) := by kernel_rfl
theorem h_val : Tryd.prog.stoodInHeld 25 = false := by kernel_rfl
set_option maxRecDepth 100000 in
theorem eq_val (d : Nat) (x y : Val) (w : World) : (Op.equalIn (d + 2) 25 (.agg x.c3) (.agg y.c3)).run Tryd.prog w = .ok (decide (x = y)) w := by
  have h : (eqF (d + 1) x.c3 y.c3 [(false, 3, 0), (false, 3, 1), (false, 9, 2)]).run Tryd.prog w = .ok (x.kind == y.kind && (x.n == y.n && ((str x.s).toList == (str y.s).toList && true))) w :=
    eqF_cons _ _ _ _ _ _ (run_part_plain w plain3 rfl) (run_part_plain w plain3 rfl) (run_equalIn_int w d _ _ _ _ _ Tryd.underlying3)
    (eqF_cons _ _ _ _ _ _ (run_part_plain w plain3 rfl) (run_part_plain w plain3 rfl) (run_equalIn_int w d _ _ _ _ _ Tryd.underlying3)
      (eqF_cons _ _ _ _ _ _ (run_part_plain w plainS rfl) (run_part_plain w plainS rfl) (run_equalIn_string w d _ _ _ Tryd.underlying9) (eqF_nil _ _ _)))
  rw [eqS (d + 1) _ _ _ u_val h_val f_val h]
  congr 1
  rw [Bool.eq_iff_iff]
  obtain ⟨a, b, c⟩ := x
  obtain ⟨a', b', c'⟩ := y
  simp
set_option maxRecDepth 100000 in
theorem eq_items {f g : List Val} (hf : f.length = 8) (hg : g.length = 8) (d : Nat) (w : World) : ∀ l : List Nat, (∀ i ∈ l, i < 8) →
    (Op.eqItems (d + 2) 25 (Tryd.prog.cellsOf 25) (farr f) (farr g) l).run Tryd.prog w = .ok (l.all fun i => decide (f[i]? = g[i]?)) w
  | [], _ => by simp [Op.eqItems]
  | i :: l, h => by
    have hi := h i (List.mem_cons_self ..)
    have hc : Tryd.prog.cellsOf 25 = 3 := by kernel_rfl
    have ih := eq_items hf hg d w l (fun j hj => h j (List.mem_cons_of_mem _ hj))
    rw [hc] at ih ⊢
    have p1 := part_agg (P := Tryd.prog) (w := w) strV (farr f) (i * 3)
    have p2 := part_agg (P := Tryd.prog) (w := w) strV (farr g) (i * 3)
    rw [farr_extract (by omega)] at p1 p2
    have e := eq_val d (f[i]'(by omega)) (g[i]'(by omega)) w
    simp only [Op.eqItems, Sem.run_bind, p1, p2, Result.andThen_ok, e, Sem.run_ite, ih, Sem.run_pure, List.all_cons]
    rw [List.getElem?_eq_getElem (show i < f.length by omega), List.getElem?_eq_getElem (show i < g.length by omega)]
    by_cases hx : f[i]'(by omega) = g[i]'(by omega) <;> simp [hx]
set_option maxRecDepth 100000 in
theorem eq_farr {f g : List Val} (hf : f.length = 8) (hg : g.length = 8) (d : Nat) (w : World) :
    (Op.equalIn (d + 3) 26 (.agg (farr f)) (.agg (farr g))).run Tryd.prog w = .ok (decide (f = g)) w := by
  obtain ⟨i, hi⟩ : ∃ i, Tryd.prog.info? 25 = some i := by
    have := strV.size
    cases h : Tryd.prog.info? 25 with
    | none => rw [h] at this; cases this
    | some i => exact ⟨i, rfl⟩
  rw [run_equalIn_array w (d + 2) _ _ Tryd.underlying26 hi, eq_items hf hg d w _ (fun i hi => List.mem_range.1 hi)]
  congr 1
  rw [Bool.eq_iff_iff]
  simp only [List.all_eq_true, List.mem_range, decide_eq_true_eq]
  refine ⟨fun h => List.ext_getElem? fun i => ?_, fun h i _ => by rw [h]⟩
  by_cases hi : i < 8
  · exact h i hi
  · rw [List.getElem?_eq_none (by omega), List.getElem?_eq_none (by omega)]
theorem Card.arr_extract {c : Card} (hf : c.f.length = 8) : c.arr.extract 3 (3 + 24) = farr c.f := by
  have h1 := c.arr_size
  have h2 := farr_size c.f
  apply Array.ext_getElem?
  intro i
  rw [Array.getElem?_extract]
  by_cases hi : i < 24
  · rw [if_pos (by omega), Card.arr_tail]
  · rw [if_neg (by omega), Array.getElem?_eq_none (by omega)]
theorem Patch.arr_extract {c : Patch} (hf : c.f.length = 8) : c.arr.extract 2 (2 + 24) = farr c.f := by
  have h1 := c.arr_size
  have h2 := farr_size c.f
  apply Array.ext_getElem?
  intro i
  rw [Array.getElem?_extract]
  by_cases hi : i < 24
  · rw [if_pos (by omega), Patch.arr_tail]
  · rw [if_neg (by omega), Array.getElem?_eq_none (by omega)]
theorem f_patch : (Tryd.prog.fieldsOf 28).toList.map (fun f => (f.name == "_", f.type, f.offset)) = [(false, 23, 0), (false, 23, 1), (false, 26, 2)] := by kernel_rfl
theorem u_patch : Tryd.prog.underlying 28 = some (.struct (Tryd.prog.fieldsOf 28)) := by kernel_rfl
theorem h_patch : Tryd.prog.stoodInHeld 28 = false := by kernel_rfl
set_option maxRecDepth 100000 in
theorem eq_patch {x y : Patch} (hf : x.f.length = 8) (hg : y.f.length = 8) (d : Nat) (w : World) : (Op.equalIn (d + 4) 28 (.agg x.arr) (.agg y.arr)).run Tryd.prog w = .ok (decide (x = y)) w := by
  obtain ⟨x0, x1⟩ := x.arr_head
  obtain ⟨y0, y1⟩ := y.arr_head
  have px := part_agg (P := Tryd.prog) (w := w) strF x.arr 2
  have py := part_agg (P := Tryd.prog) (w := w) strF y.arr 2
  rw [Patch.arr_extract (by assumption)] at px py
  have h : (eqF (d + 3) x.arr y.arr [(false, 23, 0), (false, 23, 1), (false, 26, 2)]).run Tryd.prog w = .ok ((x.mask : Int) == (y.mask : Int) && ((x.lab : Int) == (y.lab : Int) && (decide (x.f = y.f) && true))) w :=
    eqF_cons _ _ _ _ _ _ (run_part_plain w plain32 x0) (run_part_plain w plain32 y0) (run_equalIn_int w _ _ _ _ _ _ Tryd.underlying23)
    (eqF_cons _ _ _ _ _ _ (run_part_plain w plain32 x1) (run_part_plain w plain32 y1) (run_equalIn_int w _ _ _ _ _ _ Tryd.underlying23)
      (eqF_cons _ _ _ _ _ _ px py (eq_farr hf hg d w) (eqF_nil _ _ _)))
  rw [eqS (d + 3) _ _ _ u_patch h_patch f_patch h]
  congr 1
  rw [Bool.eq_iff_iff]
  obtain ⟨a, b, e⟩ := x
  obtain ⟨a', b', e'⟩ := y
  simp only [Bool.and_eq_true, beq_iff_eq, decide_eq_true_eq, and_true, Patch.mk.injEq]
  exact ⟨fun ⟨h1, h2, h3⟩ => ⟨by omega, by omega, h3⟩, fun ⟨h1, h2, h3⟩ => ⟨by omega, by omega, h3⟩⟩
end Go.Proofs.YtiedkcijjfmhaaaDoor
namespace Go.Proofs.YtiedkcijjfmhaaaDoor
open Go.ChangeShapes Go.WideShapes Go.ChangeAt Go.RowKit Go.Deep
open Go.ChangeMaps (open_string shut_string)

theorem u32_range {n : Int} (h : (Lit.int .u32 n).wf = true) : 0 ≤ n ∧ n < 4294967296 := by
  have := (show 0 ≤ n ∧ n ≤ 4294967295 by simpa [Lit.wf, IntKind.min, IntKind.max, IntKind.signed, IntKind.bits] using h)
  omega
theorem c_u32 : Tryd.prog.cellsOf 23 = 1 := by kernel_rfl
theorem c_f8 : Tryd.prog.cellsOf 26 = 24 := by kernel_rfl
theorem c_patch : Tryd.prog.cellsOf 28 = 26 := by kernel_rfl
theorem c_edit : Tryd.prog.cellsOf 30 = 29 := by kernel_rfl
theorem cons3 {α : Type} {l : List α} (h : 3 ≤ l.length) : ∃ a b c r, l = a :: b :: c :: r := by
  match l, h with
  | a :: b :: c :: r, _ => exact ⟨a, b, c, r, rfl⟩
theorem cons2 {α : Type} {l : List α} (h : 2 ≤ l.length) : ∃ a b r, l = a :: b :: r := by
  match l, h with
  | a :: b :: r, _ => exact ⟨a, b, r, rfl⟩
theorem list4 {α : Type} {l : List α} (h : l.length = 4) : ∃ a b c d, l = [a, b, c, d] := by
  match l, h with
  | [a, b, c, d], _ => exact ⟨a, b, c, d, rfl⟩
section
variable {H : Type} {enc : TypeId × Value → H} {w : World} {base : Nat} {spare : Nat → Bool} {held : Bool}
theorem flat_three : ∀ {l : List Val} {cs : List Value}, cs.length = l.length * 3 → (∀ i (h : i < l.length), (cs.drop (i * 3)).take 3 = l[i].cells) → cs = l.flatMap Val.cells
  | [], cs, h, _ => by simp at h; subst h; rfl
  | v :: l, cs, h, hi => by
    have h0 := hi 0 (by simp)
    simp only [Nat.zero_mul, List.drop_zero, List.getElem_cons_zero] at h0
    rw [List.length_cons] at h
    rw [List.flatMap_cons, ← h0]
    have ih := flat_three (l := l) (cs := cs.drop 3) (by rw [List.length_drop]; omega) (fun i hi' => by
      have := hi (i + 1) (by rw [List.length_cons]; omega)
      rw [List.drop_drop, show 3 + i * 3 = (i + 1) * 3 by omega, this, List.getElem_cons_succ])
    rw [← ih, List.take_append_drop]
theorem open_f8 {fuel : Nat} {cs : List Value} {x : DataW H × List MemPlace} (h : DataW.trod enc Tryd.prog w base spare held fuel 26 cs = some x) :
    ∃ f : List Val, f.length = 8 ∧ cs = f.flatMap Val.cells ∧ ∀ v ∈ f, v.wf := by
  obtain ⟨xs, m, _, _, hl, hxl, hf⟩ := DataW.trod_array Tryd.underlying26 h
  rw [c_f8] at hl
  have hq : ∀ i, i < 8 → ∃ v : Val, (cs.drop (i * 3)).take 3 = v.cells ∧ v.wf := by
    intro i hi
    have h1 := hf i hi
    rw [c_value, List.getElem?_eq_getElem (by omega)] at h1
    obtain ⟨v, hv, _, wv⟩ := open_val h1
    exact ⟨v, hv, wv⟩
  obtain ⟨l, hll, hq⟩ := list_of 8 hq
  refine ⟨l, hll, flat_three (by omega) (fun i hi => (hq i hi).1), fun v hv => ?_⟩
  obtain ⟨i, hi, rfl⟩ := List.getElem_of_mem hv
  exact (hq i hi).2
theorem open_u32 {fuel : Nat} {cs : List Value} {x : DataW H × List MemPlace} (h : DataW.trod enc Tryd.prog w base spare held fuel 23 cs = some x) : ∃ n : Nat, cs = [.int .u32 n] ∧ n < 4294967296 := by
  obtain ⟨a, ha, _, wa⟩ := DataW.trod_int Tryd.underlying23 h
  have := u32_range wa
  exact ⟨a.toNat, by rw [ha, Int.toNat_of_nonneg this.1], by omega⟩
theorem open_i64 {fuel : Nat} {cs : List Value} {x : DataW H × List MemPlace} (h : DataW.trod enc Tryd.prog w base spare held fuel 3 cs = some x) : ∃ n : Int, cs = [.int .i64 n] ∧ I64 n := by
  obtain ⟨a, ha, _, wa⟩ := DataW.trod_int Tryd.underlying3 h
  exact ⟨a, ha, i64_range wa⟩
theorem open_patch {fuel : Nat} {cs : List Value} {x : DataW H × List MemPlace} (h : DataW.trod enc Tryd.prog w base spare held fuel 28 cs = some x) :
    ∃ c : Patch, cs = c.arr.toList ∧ c.f.length = 8 ∧ c.mask < 4294967296 ∧ c.lab < 4294967296 ∧ ∀ v ∈ c.f, v.wf := by
  obtain ⟨xs, n, _, _, hl, hxl, hf⟩ := DataW.trod_struct Tryd.underlying28 h
  rw [c_patch] at hl
  obtain ⟨q0, q1, r, rfl⟩ := cons2 (l := cs) (by omega)
  have hr : r.length = 24 := by simpa using hl
  obtain ⟨x0, x1, x2, rfl⟩ := list3 (show xs.length = 3 from hxl)
  have h0 := hf 0
  have h1 := hf 1
  have h2 := hf 2
  simp [c_u32, c_f8] at h0 h1 h2
  rw [List.take_of_length_le (by omega)] at h2
  obtain ⟨a, ha, wa⟩ := open_u32 h0
  obtain ⟨b, hb, wb⟩ := open_u32 h1
  obtain ⟨f, hf8, hff, wf⟩ := open_f8 h2
  simp at ha hb
  subst ha hb hff
  exact ⟨⟨a, b, f⟩, by unfold Patch.arr; simp, hf8, wa, wb, wf⟩
theorem open_edit {fuel : Nat} {cs : List Value} {x : DataW H × List MemPlace} (h : DataW.trod enc Tryd.prog w base spare held fuel 30 cs = some x) :
    ∃ c : Edit, cs = c.arr.toList ∧ c.p.f.length = 8 ∧ c.p.mask < 4294967296 ∧ c.p.lab < 4294967296 ∧ I64 c.kind ∧ I64 c.id ∧ I64 c.group ∧ ∀ v ∈ c.p.f, v.wf := by
  obtain ⟨xs, n, _, _, hl, hxl, hf⟩ := DataW.trod_struct Tryd.underlying30 h
  rw [c_edit] at hl
  obtain ⟨q0, q1, q2, r, rfl⟩ := cons3 (l := cs) (by omega)
  have hr : r.length = 26 := by simpa using hl
  obtain ⟨x0, x1, x2, x3, rfl⟩ := list4 (show xs.length = 4 from hxl)
  have h0 := hf 0
  have h1 := hf 1
  have h2 := hf 2
  have h3 := hf 3
  simp [c_int, c_patch] at h0 h1 h2 h3
  rw [List.take_of_length_le (by omega)] at h3
  obtain ⟨a, ha, wa⟩ := open_i64 h0
  obtain ⟨b, hb, wb⟩ := open_i64 h1
  obtain ⟨c, hc, wc⟩ := open_i64 h2
  obtain ⟨p, hp, wf, wm, wl, wv⟩ := open_patch h3
  simp at ha hb hc
  subst ha hb hc hp
  exact ⟨⟨a, b, c, p⟩, by unfold Edit.arr Patch.arr; simp, wf, wm, wl, wa, wb, wc, wv⟩
end
end Go.Proofs.YtiedkcijjfmhaaaDoor
namespace Go.Proofs.YtiedkcijjfmhaaaDoor
open Go.ChangeShapes Go.WideShapes Go.ChangeAt Go.RowKit Go.Deep
open Go.ChangeMaps (open_string shut_string)

section
variable {H : Type} {enc : TypeId × Value → H} {w : World} {base : Nat} {spare : Nat → Bool} {held : Bool}
theorem c_int1 : Tryd.prog.cellsOf 3 = 1 := by kernel_rfl
theorem open_ints {fuel : Nat} {cs : List Value} {x : DataW H × List MemPlace} (h : DataW.trod enc Tryd.prog w 0 spare held fuel 32 cs = some x) :
    ∃ (A : Option Addr) (c : Nat) (l : List Int), cs = [.slice A l.length c] ∧ l.length ≤ c ∧ c ≤ 9223372036854775807 ∧ (l = [] ∨ ∃ b off, A = some ⟨b, off, none⟩ ∧ b < w.heap.size ∧ Row 1 ic w b off l) := by
  rcases open_slice Tryd.underlying32 h with ⟨rfl, rfl⟩ | ⟨a, len, cap, m, n, D, Pl, rfl, hb, hl, hm, hmm, hx, hi⟩
  · exact ⟨none, 0, [], rfl, by simp, by omega, .inl rfl⟩
  · have hlm : len ≤ m := by rw [hmm]; split <;> omega
    have hq : ∀ i, i < len → ∃ v : Int, ∀ j u, (ic v)[j]? = some u → w.cell? (a.add (i * 1 + j)) = some u := by
      intro i hil
      obtain ⟨cs', hc, ht⟩ := hi i (by omega)
      rw [c_int1] at hc
      obtain ⟨k, hk, _⟩ := open_i64 ht
      obtain ⟨_, hcl, hat⟩ := World.cells?_some hc
      refine ⟨k, fun j u hu => ?_⟩
      have hj : j < 1 := (List.getElem?_eq_some_iff.1 hu).1
      have hj0 : j = 0 := by omega
      subst hj0
      have h1 := hat 0 (by omega)
      rw [Go.Deep.add_add] at h1
      rw [h1, hk]
      exact hu
    obtain ⟨l, hll, hq⟩ := list_of len hq
    refine ⟨some a, cap, l, by rw [hll], by omega, by unfold maxLen at hm; omega, ?_⟩
    rcases Nat.eq_zero_or_pos len with h0 | h0
    · exact .inl (List.eq_nil_of_length_eq_zero (by omega))
    · right
      have h1 := hq 0 (by omega) 0 _ rfl
      have hsp := cell_spot h1
      have hlt := World.block_lt_of_cell? w _ h1
      obtain ⟨ab, ao, asp⟩ := a
      simp [Addr.add] at hsp hlt
      subst hsp
      refine ⟨ab, ao, rfl, hlt, fun i hi j u hu => ?_⟩
      have := hq i hi j u hu
      rw [add_lit'] at this
      rw [Nat.add_assoc]; exact this
end
open Go.RowKit

theorem elemB : Elem Tryd.prog 68 5 1 1 := Elem.mk' Tryd.underlying68 (z := .int .u8 0) (by kernel_rfl) rfl (by omega) (by omega)

theorem or128 (v : Nat) : bits .or .u8 ((v : Int) % 256) 128 = ((v % 128 + 128 : Nat) : Int) := by
  have h1 := u8_or_nat (v % 256) 128 (Nat.mod_lt _ (by omega)) (by omega)
  have h2 : ∀ a : Fin 256, (a.val ||| 128) = a.val % 128 + 128 := by decide +kernel
  have h3 := h2 ⟨v % 256, Nat.mod_lt _ (by omega)⟩
  simp only at h3
  rw [h3] at h1
  have e : ((v : Int) % 256) = ((v % 256 : Nat) : Int) := by omega
  rw [e]
  refine Eq.trans h1 ?_
  omega

set_option maxHeartbeats 400000 in
set_option maxRecDepth 4000 in
theorem c_octet_Num (l : List UInt8) (A : Option Addr) (c : Nat) (n : Int) (w : World) (h : InB w A c l) :
    Calls Tryd.prog 38 #[.slice A l.length c, .int .i64 n] w (RetS 1 bc 5 w (l ++ num n)) := by
  have hL := h.1
  have hC := h.2.1
  have hS := h.2.2.1
  have EB := elemB
  have H0 : Held w w.heap.size 5 1 (.slice A l.length l.length) l.length (l.flatMap bc) := Held.of_in bc_len (by omega) h
  go_enter Tryd.func38, Tryd.ntmps38
  have Hnum : Hid (l ++ numF 6 (clampN n) = l ++ num n) := by show _ = _; rw [num_def]
  have hlt0 := clampN_lt n
  have hle0 := clampN_le n
  have hci := clampN_int n
  go_wp2_with (fail)
  go_loopw [0, 5] (fun b v wr => ∃ (f vn : Nat) (acc : List UInt8), vn ≤ 1099511627776 ∧ Hid (vn < 128 ^ (f + 1)) ∧ acc.length + f ≤ l.length + 6 ∧ v = .int .i64 vn ∧ Hid (Held wr w.heap.size 5 1 b acc.length (acc.flatMap bc)) ∧ Hid (acc ++ numF f vn = l ++ num n) ∧ Below w.heap.size w wr)
    (fun _ v _ => (intOf v).toNat)
  case atStart => exact ⟨6, clampN n, l, hle0, hlt0, by omega, by rw [hci], H0, Hnum, (by repeat (first | exact Below.refl _ _ | refine Below.drew ?_ | refine Below.alloc ?_ (by first | omega | (simp; done) | (simp; omega)) _ | refine Below.setCell ?_ (by first | omega | (simp; done) | (simp; omega)) _ | refine Below.trans ?_ (Below.mono (by assumption) (by first | omega | (simp; done) | (simp; omega)))))⟩
  case round =>
    obtain ⟨f, vn, acc, hle, hlt, hlen, rfl, H, HN, hbl⟩ := hrel
    have hbz := hbl.size
    obtain ⟨A1, c1, rfl⟩ := H.out.shape
    by_cases hv : vn < 128
    · have HN' : acc ++ [UInt8.ofNat vn] = l ++ num n := by rw [← numF_lt hv]; exact HN.out
      have HF := lh HN'
      clear HN HN' Hnum hlt hlt0 hci h
      go_wp2_with ((at_builtin; refine Stop.out ?_))
      refine Stop.mk (wpList_appH _ rfl (.tmp 25) (.tmp 28) EB rfl w.heap.size (.slice A1 acc.length c1) acc.length (acc.flatMap bc) rfl (H.out.below ((Below.refl _ _).alloc (Nat.le_refl _) _)) _ 1 1 [.int .u8 vn] rfl (Src.new _ _ _ _ rfl) (by simp [Value.oneCell']) (by omega) (by omega) ?_ ?_)
      · simp only [World.size_alloc]; omega
      intro v2 w2 own2 hb2
      have hfin : Hid (acc.flatMap bc ++ [Value.int .u8 vn] = (l ++ num n).flatMap bc ∧ acc.length + 1 = (l ++ num n).length) := by
        show _ ∧ _
        rw [← HF.out]
        refine ⟨?_, by simp⟩
        rw [List.flatMap_append]
        simp [bc]; omega
      obtain ⟨e1, e2⟩ := hfin.out
      rw [e1, e2] at own2
      have O2 := lh own2
      clear own2 e1 e2
      go_wp2_with (fail)
      go_ret
      exact ⟨_, rfl, O2.out, Below.trans (b := wr) hbl (Below.trans (b := wr.alloc (.cells #[.int .u8 vn] 5)) (by repeat (first | exact Below.refl _ _ | refine Below.drew ?_ | refine Below.alloc ?_ (by first | omega | (simp; done) | (simp; omega)) _ | refine Below.setCell ?_ (by first | omega | (simp; done) | (simp; omega)) _ | refine Below.trans ?_ (Below.mono (by assumption) (by first | omega | (simp; done) | (simp; omega))))) hb2)⟩
    · obtain ⟨f', rfl⟩ : ∃ f', f = f' + 1 := by
        cases f with
        | zero => exact absurd hlt.out (by omega)
        | succ f => exact ⟨f, rfl⟩
      have hlt2 : Hid (vn / 128 < 128 ^ (f' + 1)) := Nat.div_lt_of_lt_mul (by have := hlt.out; rw [Nat.pow_succ 128 (f' + 1), Nat.mul_comm] at this; exact this)
      have hn2 := HN.out
      rw [numF_ge hv] at hn2
      have HN2 := lh hn2
      clear HN hn2 hlt hlt0 hci h Hnum
      have hor := or128 vn
      go_wp2_with ((at_builtin; refine Stop.out ?_))
      refine Stop.mk (wpList_appH _ rfl (.tmp 17) (.tmp 21) EB rfl w.heap.size (.slice A1 acc.length c1) acc.length (acc.flatMap bc) rfl (H.out.below ((Below.refl _ _).alloc (Nat.le_refl _) _)) _ 1 1 [.int .u8 ((vn % 128 + 128 : Nat) : Int)] rfl (Src.new _ _ _ _ rfl) (by simp [Value.oneCell']) (by omega) (by omega) ?_ ?_)
      · simp only [World.size_alloc]; omega
      intro v2 w2 own2 hb2
      have hfin : Hid (acc.flatMap bc ++ [Value.int .u8 ((vn % 128 + 128 : Nat) : Int)] = (acc ++ [UInt8.ofNat (vn % 128 + 128)]).flatMap bc ∧ acc.length + 1 = (acc ++ [UInt8.ofNat (vn % 128 + 128)]).length) := by
        show _ ∧ _
        refine ⟨?_, by simp⟩
        rw [List.flatMap_append]
        simp [bc]; omega
      obtain ⟨e1, e2⟩ := hfin.out
      rw [e1, e2] at own2
      have O2 := lh own2
      have hb3 : Below w.heap.size w w2 := Below.trans (b := wr) hbl (Below.trans (b := wr.alloc (.cells #[.int .u8 ((vn % 128 + 128 : Nat) : Int)] 5)) (by repeat (first | exact Below.refl _ _ | refine Below.drew ?_ | refine Below.alloc ?_ (by first | omega | (simp; done) | (simp; omega)) _ | refine Below.setCell ?_ (by first | omega | (simp; done) | (simp; omega)) _ | refine Below.trans ?_ (Below.mono (by assumption) (by first | omega | (simp; done) | (simp; omega))))) hb2)
      clear own2 e1 e2
      go_wp2_with (fail)
      go_roundw
      case rel =>
        refine ⟨f', vn / 128, acc ++ [UInt8.ofNat (vn % 128 + 128)], by omega, hlt2, by simp; omega, by go_num, .inl O2.out, ?_, hb3⟩
        show _ = _
        rw [← HN2.out]; simp
      case measure => simp [intOf]; omega
set_option maxHeartbeats 400000 in
set_option maxRecDepth 4000 in
theorem c_octet_Str (l : List UInt8) (A : Option Addr) (c : Nat) (s : List UInt8) (w : World) (h : InB w A c l) (hs : s.length ≤ 4294967000) :
    Calls Tryd.prog 75 #[.slice A l.length c, .string (str s)] w (RetS 1 bc 5 w (l ++ strB s)) := by
  have hL := h.1
  have hC := h.2.1
  have hS := h.2.2.1
  have EB := elemB
  go_enter Tryd.func75, Tryd.ntmps75
  go_wp2_with (first
    | (go_at_call 38; refine (c_octet_Num l A c _ _ h).mono ?_; rintro e w1 ⟨v1, rfl, own1, hb1⟩)
    | (at_builtin; refine Stop.out ?_))
  have hnl := num_len (s.length : Int)
  refine Stop.mk (wpList_appS _ rfl (.tmp 8) (.tmp 9) Tryd.underlying68 Tryd.underlying9 (by kernel_rfl) rfl w.heap.size _ _ _ rfl own1 s rfl (by simp only [List.length_append]; omega) hb1.size ?_)
  intro v2 w2 own2 _ hb2
  have hfin : Hid ((l ++ num s.length).flatMap bc ++ s.flatMap bc = (l ++ strB s).flatMap bc ∧ (l ++ num s.length).length + s.length = (l ++ strB s).length) := by
    show _ ∧ _
    refine ⟨?_, by simp [strB]; omega⟩
    rw [← List.flatMap_append]; simp [strB]
  obtain ⟨e1, e2⟩ := hfin.out
  rw [e1, e2] at own2
  have O2 := lh own2
  clear own2 e1 e2 own1
  go_wp2_with (fail)
  go_ret
  exact ⟨_, rfl, O2.out, hb1.trans hb2⟩
set_option maxHeartbeats 400000 in
set_option maxRecDepth 4000 in
theorem c_Clone_b (l : List UInt8) (A : Option Addr) (c : Nat) (w : World) (h : In 1 bc w A c l) :
    Calls Tryd.prog 93 #[.slice A l.length c] w (RetS 1 bc 5 w l) := by
  have hL := h.1
  have hC := h.2.1
  have hS := h.2.2.1
  have EB := elemB
  rcases A with _ | ad
  · have hl : l = [] := by
      rcases h.2.2.2 with h | ⟨b, off, hh, _⟩
      · exact h
      · cases hh
    subst hl
    clear h
    have ke := fun (w : World) (n c : Nat) => Lib.run_eql_slice_nil (P := Tryd.prog) w 68 _ none n c 0 0 Tryd.underlying68
    go_enter Tryd.func93, Tryd.ntmps93
    go_wp2_with (fail)
    go_ret
    exact ⟨_, rfl, World.ownsRow_nil _ _ _ _, Below.refl _ _⟩
  · have ke := fun (w : World) (n c : Nat) => Lib.run_eql_slice_nil (P := Tryd.prog) w 68 _ (some ad) n c 0 0 Tryd.underlying68
    go_enter Tryd.func93, Tryd.ntmps93
    go_wp2_with ((at_builtin; refine Stop.out ?_))
    refine Stop.mk (wpList_app _ rfl (.tmp 5) (.tmp 6) EB rfl w.heap.size (.slice (some ⟨w.heap.size, 0, none⟩) 0 0) 0 [] rfl (World.ownsRow_lit w #[] 0 (Nat.le_refl _) (by unfold maxLen; omega) (by simp)) (some ad) l.length c (l.flatMap bc) rfl (Src.of_in bc_len (by omega) (h.alloc _)) (bc_one _) (by omega) ?_ ?_)
    · simp only [World.size_alloc]; omega
    intro v2 w2 own2 _ hb2 _
    rw [Nat.zero_add, List.nil_append] at own2
    have hb3 : Below w.heap.size w w2 := Below.trans (b := w.alloc (.cells #[] 5)) (by repeat (first | exact Below.refl _ _ | refine Below.drew ?_ | refine Below.alloc ?_ (by first | omega | (simp; done) | (simp; omega)) _ | refine Below.setCell ?_ (by first | omega | (simp; done) | (simp; omega)) _ | refine Below.trans ?_ (Below.mono (by assumption) (by first | omega | (simp; done) | (simp; omega))))) hb2
    go_wp2_with (fail)
    go_ret
    exact ⟨_, rfl, own2, hb3⟩
open Go.RowKit

set_option maxHeartbeats 400000 in
theorem c_value_Check (x : Val) (w : World) (hs : x.s.length ≤ 9223372036854775807) : Calls Tryd.prog 56 #[x.val] w (RetV w (.bool x.ok)) := by
  unfold Val.val
  go_enter Tryd.func56, Tryd.ntmps56
  go_wp2
  all_goals (go_ret; refine RetV.bool ?_ (by repeat (first | exact Below.refl _ _ | refine Below.drew ?_ | refine Below.alloc ?_ (by first | omega | (simp; done) | (simp; omega)) _ | refine Below.setCell ?_ (by first | omega | (simp; done) | (simp; omega)) _ | refine Below.trans ?_ (Below.mono (by assumption) (by first | omega | (simp; done) | (simp; omega))))); simp_all [Val.ok]; try omega)
set_option maxHeartbeats 400000 in
theorem c_ref04_Check (x : Val) (w : World) (hs : x.s.length ≤ 9223372036854775807) : Calls Tryd.prog 65 #[x.val] w (RetV w (.bool x.ok)) := by
  unfold Val.val
  go_enter Tryd.func65, Tryd.ntmps65
  go_wp2
  all_goals (go_ret; refine RetV.bool ?_ (by repeat (first | exact Below.refl _ _ | refine Below.drew ?_ | refine Below.alloc ?_ (by first | omega | (simp; done) | (simp; omega)) _ | refine Below.setCell ?_ (by first | omega | (simp; done) | (simp; omega)) _ | refine Below.trans ?_ (Below.mono (by assumption) (by first | omega | (simp; done) | (simp; omega))))); simp_all [Val.ok]; try omega)
theorem Val.ok_kind {x : Val} (h : x.ok = true) : x.kind = 0 ∨ x.kind = 1 ∨ x.kind = 2 := by
  unfold Val.ok at h
  by_cases h0 : x.kind = 0
  · exact .inl h0
  · by_cases h1 : x.kind = 1
    · exact .inr (.inl h1)
    · by_cases h2 : x.kind = 2
      · exact .inr (.inr h2)
      · simp [h0, h1, h2] at h
theorem Val.ok_cases (x : Val) : (x.ok = false ∧ x.none = false) ∨ (x.ok = true ∧ x.none = true ∧ x.kind = 0) ∨ (x.ok = true ∧ x.none = false ∧ x.kind = 1) ∨ (x.ok = true ∧ x.none = false ∧ x.kind = 2) := by
  cases h : x.ok
  · simp only [true_and, Bool.false_eq_true, false_and, or_false]
    cases hn : x.none
    · rfl
    · unfold Val.none at hn; unfold Val.ok at h; simp_all
  · rcases Val.ok_kind h with hk | hk | hk <;> simp [Val.none_kind h, hk]
theorem Val.none_ok {x : Val} (h : x.none = true) : x.ok = true := by
  rcases Val.ok_cases x with ⟨h1, h2⟩ | ⟨h1, _⟩ | ⟨h1, _⟩ | ⟨h1, _⟩
  · rw [h] at h2; cases h2
  all_goals exact h1
open Go.RowKit

def valB (x : Val) : List UInt8 := if x.ok then num x.kind ++ (if x.kind = 1 then num x.n else if x.kind = 2 then strB x.s else []) else []
theorem valB_none {x : Val} (h : x.ok = false) : valB x = [] := by unfold valB; rw [h]; rfl
theorem valB_0 {x : Val} (h : x.ok = true) (hk : x.kind = 0) : valB x = num x.kind := by unfold valB; rw [if_pos h, if_neg (by omega), if_neg (by omega), List.append_nil]
theorem valB_1 {x : Val} (h : x.ok = true) (hk : x.kind = 1) : valB x = num x.kind ++ num x.n := by unfold valB; rw [if_pos h, if_pos hk]
theorem valB_2 {x : Val} (h : x.ok = true) (hk : x.kind = 2) : valB x = num x.kind ++ strB x.s := by unfold valB; rw [if_pos h, if_neg (by omega), if_pos hk]
theorem Val.ok_len {x : Val} (h : x.ok = true) : x.s.length ≤ 24 := by
  unfold Val.ok at h
  by_cases h0 : x.kind = 0
  · simp [h0] at h; simp [h.2]
  · by_cases h1 : x.kind = 1
    · simp [h1] at h; simp [h.2]
    · by_cases h2 : x.kind = 2
      · simp [h2] at h; exact h.2
      · simp [h0, h1, h2] at h
theorem valB_len (x : Val) : (valB x).length ≤ 38 := by
  rcases Val.ok_cases x with ⟨h, _⟩ | ⟨h, _, hk⟩ | ⟨h, _, hk⟩ | ⟨h, _, hk⟩
  · rw [valB_none h]; simp
  · have := num_len x.kind; rw [valB_0 h hk]; omega
  · have := num_len x.kind; have := num_len x.n; rw [valB_1 h hk, List.length_append]; omega
  · have := num_len x.kind; have := num_len x.s.length; have := Val.ok_len h; rw [valB_2 h hk, List.length_append, strB, List.length_append]; omega

set_option maxHeartbeats 400000 in
set_option maxRecDepth 4000 in
theorem c_cardwire_PutValue (l : List UInt8) (A : Option Addr) (c : Nat) (x : Val) (w : World) (h : InB w A c l) (hl : l.length ≤ 1073741824) (hs : x.s.length ≤ 4294967000) :
    Calls Tryd.prog 96 #[.slice A l.length c, x.val] w (RetS 1 bc 5 w (l ++ valB x)) := by
  have hL := h.1
  have hC := h.2.1
  have hS := h.2.2.1
  have hn1 := (num_len x.kind).2
  have hn2 := (num_len x.n).2
  unfold Val.val
  rcases Val.ok_cases x with ⟨hok, _⟩ | ⟨hok, _, hk⟩ | ⟨hok, _, hk⟩ | ⟨hok, _, hk⟩
  · have H : Hid (l = l ++ valB x) := by rw [valB_none hok, List.append_nil]; rfl
    go_enter Tryd.func96, Tryd.ntmps96
    go_wp2_with (first
      | (go_at_call 56; refine (c_value_Check x _ (by omega)).mono ?_; rintro e w1 ⟨rfl, hb1⟩; have hz1 := hb1.size; simp only [World.size_alloc] at hz1; have q1 := fun o => hb1.cell (p := ⟨w.heap.size, o, none⟩) (by simp); have hlt1 : w.heap.size < w1.heap.size := by omega)
      | (go_at_call 93; refine (c_Clone_b l A c _ (h.below (by repeat (first | exact Below.refl _ _ | refine Below.drew ?_ | refine Below.alloc ?_ (by first | omega | (simp; done) | (simp; omega)) _ | refine Below.setCell ?_ (by first | omega | (simp; done) | (simp; omega)) _ | refine Below.trans ?_ (Below.mono (by assumption) (by first | omega | (simp; done) | (simp; omega))))))).mono ?_; rintro e w2 ⟨v2, rfl, own2, hb2⟩))
    go_ret
    exact RetS.of own2 (by omega) H.out (by repeat (first | exact Below.refl _ _ | refine Below.drew ?_ | refine Below.alloc ?_ (by first | omega | (simp; done) | (simp; omega)) _ | refine Below.setCell ?_ (by first | omega | (simp; done) | (simp; omega)) _ | refine Below.trans ?_ (Below.mono (by assumption) (by first | omega | (simp; done) | (simp; omega)))))
  · have H : Hid (l ++ num x.kind = l ++ valB x) := by rw [valB_0 hok hk]; rfl
    obtain ⟨k, n, s⟩ := x
    obtain rfl : k = 0 := hk
    simp only at *
    go_enter Tryd.func96, Tryd.ntmps96
    go_wp2_with (first
      | (go_at_call 56; refine (c_value_Check ⟨0, n, s⟩ _ (by have := hs; simp at this ⊢; omega)).mono ?_; rintro e w1 ⟨rfl, hb1⟩; have hz1 := hb1.size; simp only [World.size_alloc] at hz1; have q1 := fun o => hb1.cell (p := ⟨w.heap.size, o, none⟩) (by simp); have hlt1 : w.heap.size < w1.heap.size := by omega)
      | (go_at_call 38; refine (c_octet_Num l A c _ _ (h.below (by repeat (first | exact Below.refl _ _ | refine Below.drew ?_ | refine Below.alloc ?_ (by first | omega | (simp; done) | (simp; omega)) _ | refine Below.setCell ?_ (by first | omega | (simp; done) | (simp; omega)) _ | refine Below.trans ?_ (Below.mono (by assumption) (by first | omega | (simp; done) | (simp; omega))))))).mono ?_; rintro e w2 ⟨v2, rfl, own2, hb2⟩; have q2 := fun o => hb2.cell (p := ⟨w.heap.size, o, none⟩) (by omega)))
    go_ret
    exact RetS.of own2 (by omega) H.out (by repeat (first | exact Below.refl _ _ | refine Below.drew ?_ | refine Below.alloc ?_ (by first | omega | (simp; done) | (simp; omega)) _ | refine Below.setCell ?_ (by first | omega | (simp; done) | (simp; omega)) _ | refine Below.trans ?_ (Below.mono (by assumption) (by first | omega | (simp; done) | (simp; omega)))))
  · have H : Hid (l ++ num x.kind ++ num x.n = l ++ valB x) := by rw [valB_1 hok hk, List.append_assoc]; rfl
    obtain ⟨k, n, s⟩ := x
    obtain rfl : k = 1 := hk
    simp only at *
    go_enter Tryd.func96, Tryd.ntmps96
    go_wp2_with (first
      | (go_at_call 56; refine (c_value_Check ⟨1, n, s⟩ _ (by have := hs; simp at this ⊢; omega)).mono ?_; rintro e w1 ⟨rfl, hb1⟩; have hz1 := hb1.size; simp only [World.size_alloc] at hz1; have q1 := fun o => hb1.cell (p := ⟨w.heap.size, o, none⟩) (by simp); have hlt1 : w.heap.size < w1.heap.size := by omega)
      | (go_at_call 38; refine (c_octet_Num l2 A2 c2 _ _ in2).mono ?_; rintro e w3 ⟨v3, rfl, own3, hb3⟩)
      | (go_at_call 38; refine (c_octet_Num l A c _ _ (h.below (by repeat (first | exact Below.refl _ _ | refine Below.drew ?_ | refine Below.alloc ?_ (by first | omega | (simp; done) | (simp; omega)) _ | refine Below.setCell ?_ (by first | omega | (simp; done) | (simp; omega)) _ | refine Below.trans ?_ (Below.mono (by assumption) (by first | omega | (simp; done) | (simp; omega))))))).mono ?_; rintro e w2 ⟨v2, rfl, own2, hb2⟩; have hz2 := hb2.size; have q2 := fun o => hb2.cell (p := ⟨w.heap.size, o, none⟩) (by omega); obtain ⟨l2, A2, c2, H2, hl2, rfl, in2, own2'⟩ := own_open bc_len own2 (l.length + 7) (by simp only [List.length_append]; omega) (by omega); clear own2))
    go_ret
    exact RetS.of own3 (by omega) (by rw [H2.out]; exact H.out) (by repeat (first | exact Below.refl _ _ | refine Below.drew ?_ | refine Below.alloc ?_ (by first | omega | (simp; done) | (simp; omega)) _ | refine Below.setCell ?_ (by first | omega | (simp; done) | (simp; omega)) _ | refine Below.trans ?_ (Below.mono (by assumption) (by first | omega | (simp; done) | (simp; omega)))))
  · have H : Hid (l ++ num x.kind ++ strB x.s = l ++ valB x) := by rw [valB_2 hok hk, List.append_assoc]; rfl
    obtain ⟨k, n, s⟩ := x
    obtain rfl : k = 2 := hk
    simp only at *
    go_enter Tryd.func96, Tryd.ntmps96
    go_wp2_with (first
      | (go_at_call 56; refine (c_value_Check ⟨2, n, s⟩ _ (by have := hs; simp at this ⊢; omega)).mono ?_; rintro e w1 ⟨rfl, hb1⟩; have hz1 := hb1.size; simp only [World.size_alloc] at hz1; have q1 := fun o => hb1.cell (p := ⟨w.heap.size, o, none⟩) (by simp); have hlt1 : w.heap.size < w1.heap.size := by omega)
      | (go_at_call 38; refine (c_octet_Num l A c _ _ (h.below (by repeat (first | exact Below.refl _ _ | refine Below.drew ?_ | refine Below.alloc ?_ (by first | omega | (simp; done) | (simp; omega)) _ | refine Below.setCell ?_ (by first | omega | (simp; done) | (simp; omega)) _ | refine Below.trans ?_ (Below.mono (by assumption) (by first | omega | (simp; done) | (simp; omega))))))).mono ?_; rintro e w2 ⟨v2, rfl, own2, hb2⟩; have hz2 := hb2.size; have q2 := fun o => hb2.cell (p := ⟨w.heap.size, o, none⟩) (by omega); obtain ⟨l2, A2, c2, H2, hl2, rfl, in2, own2'⟩ := own_open bc_len own2 (l.length + 7) (by simp only [List.length_append]; omega) (by omega); clear own2)
      | (go_at_call 75; refine (c_octet_Str l2 A2 c2 _ _ in2 (by omega)).mono ?_; rintro e w3 ⟨v3, rfl, own3, hb3⟩))
    go_ret
    exact RetS.of own3 (by omega) (by rw [H2.out]; exact H.out) (by repeat (first | exact Below.refl _ _ | refine Below.drew ?_ | refine Below.alloc ?_ (by first | omega | (simp; done) | (simp; omega)) _ | refine Below.setCell ?_ (by first | omega | (simp; done) | (simp; omega)) _ | refine Below.trans ?_ (Below.mono (by assumption) (by first | omega | (simp; done) | (simp; omega)))))
open Go.RowKit

def rdVal' (st : Rd) : Rd := if rdN st 2 = 1 then rdN' (rdN' st 2) 1099511627776 else if rdN st 2 = 2 then rdS' (rdN' st 2) 24 else rdN' st 2
def rdVal (st : Rd) : Val := if (rdVal' st).e = 0 then ⟨rdN st 2, if rdN st 2 = 1 then rdN (rdN' st 2) 1099511627776 else 0, if rdN st 2 = 2 then rdS (rdN' st 2) 24 else []⟩ else ⟨0, 0, []⟩
theorem rdVal_bad {st : Rd} (h : (rdVal' st).e ≠ 0) : rdVal st = ⟨0, 0, []⟩ := by unfold rdVal; rw [if_neg h]
theorem rdVal_1 {st : Rd} (h : (rdVal' st).e = 0) (h1 : rdN st 2 = 1) : rdVal st = ⟨1, rdN (rdN' st 2) 1099511627776, []⟩ := by unfold rdVal; rw [if_pos h, h1]; rfl
theorem rdVal_2 {st : Rd} (h : (rdVal' st).e = 0) (h1 : rdN st 2 = 2) : rdVal st = ⟨2, 0, rdS (rdN' st 2) 24⟩ := by unfold rdVal; rw [if_pos h, h1]; rfl
theorem rdVal_0 {st : Rd} (h : (rdVal' st).e = 0) (h1 : rdN st 2 = 0) : rdVal st = ⟨0, 0, []⟩ := by unfold rdVal; rw [if_pos h, h1]; rfl
theorem rdVal'_1 {st : Rd} (h1 : rdN st 2 = 1) : rdVal' st = rdN' (rdN' st 2) 1099511627776 := by unfold rdVal'; rw [if_pos h1]
theorem rdVal'_2 {st : Rd} (h1 : rdN st 2 = 2) : rdVal' st = rdS' (rdN' st 2) 24 := by unfold rdVal'; rw [if_neg (by omega), if_pos h1]
theorem rdVal'_0 {st : Rd} (h1 : rdN st 2 = 0) : rdVal' st = rdN' st 2 := by unfold rdVal'; rw [if_neg (by omega), if_neg (by omega)]
theorem rdN2_cases (st : Rd) : rdN st 2 = 0 ∨ rdN st 2 = 1 ∨ rdN st 2 = 2 := by have := rdN_bd st 2; omega
theorem rdF_bad (st : Rd) {e : Int} (h : e ≠ 0) : (rdF st e).e ≠ 0 := by unfold rdF; split <;> assumption
theorem rdN_ok {st : Rd} {most : Int} (h : rdN st most ≠ 0) : st.e = 0 ∧ (rdN' st most).e = 0 := by
  refine ⟨?_, ?_⟩
  · by_cases h0 : st.e = 0
    · exact h0
    · exact absurd (rdN_err h0).1 h
  · by_cases h0 : (rdN' st most).e = 0
    · exact h0
    · exact absurd (rdN_err' h0) h
theorem Val.none_eq {x : Val} (h : x.none = true) : x = ⟨0, 0, []⟩ := by
  obtain ⟨k, n, s⟩ := x
  simp only [Val.none, Bool.and_eq_true, decide_eq_true_eq, List.isEmpty_iff] at h
  obtain ⟨⟨rfl, rfl⟩, rfl⟩ := h
  rfl
theorem Val.ok_0 {x : Val} (h : x.ok = true) (hk : x.kind = 0) : x = ⟨0, 0, []⟩ := Val.none_eq (by rw [Val.none_kind h]; simpa using hk)
theorem Val.ok_1 {x : Val} (h : x.ok = true) (hk : x.kind = 1) : 0 ≤ x.n ∧ x.n ≤ 1099511627776 ∧ x.s = [] := by
  unfold Val.ok at h
  rw [if_neg (by omega), if_pos hk] at h
  simp only [Bool.and_eq_true, decide_eq_true_eq, List.isEmpty_iff] at h
  exact ⟨h.1.1, h.1.2, h.2⟩
theorem Val.ok_2 {x : Val} (h : x.ok = true) (hk : x.kind = 2) : x.n = 0 ∧ x.s.length ≤ 24 := by
  unfold Val.ok at h
  rw [if_neg (by omega), if_neg (by omega), if_pos hk] at h
  simp only [Bool.and_eq_true, decide_eq_true_eq] at h
  exact h
theorem Val.ok_kinds {x : Val} (h : x.ok = true) : x.kind = 0 ∨ x.kind = 1 ∨ x.kind = 2 := by
  unfold Val.ok at h
  by_cases h0 : x.kind = 0
  · exact .inl h0
  · by_cases h1 : x.kind = 1
    · exact .inr (.inl h1)
    · by_cases h2 : x.kind = 2
      · exact .inr (.inr h2)
      · simp [h0, h1, h2] at h
theorem rdVal_put {x : Val} (h : x.ok = true) (r : List UInt8) : rdVal ⟨valB x ++ r, 0⟩ = x ∧ rdVal' ⟨valB x ++ r, 0⟩ = ⟨r, 0⟩ := by
  obtain ⟨k, n, s⟩ := x
  rcases Val.ok_kinds h with hk | hk | hk
  · have e := Val.ok_0 h hk
    obtain rfl : k = 0 := hk
    rw [valB_0 h rfl]
    obtain ⟨h1, h2⟩ := rdN_num (n := 0) (most := 2) r (by omega) (by omega) (by omega)
    have h3 : rdVal' ⟨num 0 ++ r, 0⟩ = ⟨r, 0⟩ := by rw [rdVal'_0 h1, h2]
    exact ⟨by rw [rdVal_0 (by rw [h3]) h1, e], h3⟩
  · obtain ⟨e1, e2, e3⟩ := Val.ok_1 h hk
    simp only at e1 e2 e3
    obtain rfl : k = 1 := hk
    subst e3
    rw [valB_1 h rfl, List.append_assoc]
    obtain ⟨h1, h2⟩ := rdN_num (n := 1) (most := 2) (num n ++ r) (by omega) (by omega) (by omega)
    obtain ⟨h3, h4⟩ := rdN_num (n := n) (most := 1099511627776) r e1 e2 e2
    have h5 : rdVal' ⟨num 1 ++ (num n ++ r), 0⟩ = ⟨r, 0⟩ := by rw [rdVal'_1 h1, h2, h4]
    exact ⟨by rw [rdVal_1 (by rw [h5]) h1, h2, h3], h5⟩
  · obtain ⟨e1, e2⟩ := Val.ok_2 h hk
    simp only at e1 e2
    obtain rfl : k = 2 := hk
    subst e1
    rw [valB_2 h rfl, List.append_assoc]
    obtain ⟨h1, h2⟩ := rdN_num (n := 2) (most := 2) (strB s ++ r) (by omega) (by omega) (by omega)
    obtain ⟨h3, h4⟩ := rdS_str (s := s) (most := 24) r (by omega) (by omega)
    have h5 : rdVal' ⟨num 2 ++ (strB s ++ r), 0⟩ = ⟨r, 0⟩ := by rw [rdVal'_2 h1, h2, h4]
    exact ⟨by rw [rdVal_2 (by rw [h5]) h1, h2, h3], h5⟩
theorem rdVal_took {st : Rd} (h : (rdVal' st).e = 0) : st.e = 0 ∧ (rdVal st).ok = true ∧ st.s = valB (rdVal st) ++ (rdVal' st).s := by
  rcases rdN2_cases st with h0 | h0 | h0
  · have h1 := rdVal'_0 h0
    have h' := h
    rw [h1] at h'
    obtain ⟨e, u, e1, e2, _⟩ := rdN_took h'
    have hv := rdVal_0 h h0
    have hok : (⟨0, 0, []⟩ : Val).ok = true := by decide
    rw [hv, h1, valB_0 hok rfl]
    exact ⟨e, hok, by rw [e1, e2, h0]⟩
  · have h1 := rdVal'_1 h0
    have h' := h
    rw [h1] at h'
    obtain ⟨e, u, e1, e2, _⟩ := rdN_took h'
    obtain ⟨f, u', f1, f2, _⟩ := rdN_took e
    have hb := rdN_bd (rdN' st 2) 1099511627776
    have hv := rdVal_1 h h0
    have hok : (⟨1, rdN (rdN' st 2) 1099511627776, []⟩ : Val).ok = true := by simp [Val.ok]; omega
    rw [hv, h1, valB_1 hok rfl]
    exact ⟨f, hok, by rw [f1, f2, e1, e2, h0]; simp⟩
  · have h1 := rdVal'_2 h0
    have h' := h
    rw [h1] at h'
    obtain ⟨e, u, e1, e2, e3⟩ := rdS_took h'
    obtain ⟨f, u', f1, f2, _⟩ := rdN_took e
    have hv := rdVal_2 h h0
    have hok : (⟨2, 0, rdS (rdN' st 2) 24⟩ : Val).ok = true := by simp [Val.ok]; omega
    rw [hv, h1, valB_2 hok rfl]
    exact ⟨f, hok, by rw [f1, f2, e1, e2, h0]; simp⟩
theorem rdVal_err {st : Rd} (h : st.e ≠ 0) : rdVal st = ⟨0, 0, []⟩ ∧ rdVal' st = st := by
  have h0 : rdVal' st = st := by rw [rdVal'_0 (rdN_err h).1, (rdN_err h).2]
  exact ⟨rdVal_bad (by rw [h0]; exact h), h0⟩
theorem rdVal_ok (st : Rd) : (rdVal st).ok = true := by
  by_cases h : (rdVal' st).e = 0
  · exact (rdVal_took h).2.1
  · rw [rdVal_bad h]; decide
/-! A number that is not 0. -/
def rdAb' (st : Rd) (most : Int) : Rd := if rdN st most = 0 then rdF (rdN' st most) 3 else rdN' st most
theorem rdAb'_zero {st : Rd} {most : Int} (h : rdN st most = 0) : rdAb' st most = rdF (rdN' st most) 3 := by unfold rdAb'; rw [if_pos h]
theorem rdAb'_pos {st : Rd} {most : Int} (h : rdN st most ≠ 0) : rdAb' st most = rdN' st most := by unfold rdAb'; rw [if_neg h]
theorem rdAb'_bad {st : Rd} {most : Int} (h : st.e ≠ 0) : rdAb' st most = st := by rw [rdAb'_zero (rdN_err h).1, (rdN_err h).2, rdF_err h]
theorem rdAb'_ok {st : Rd} {most : Int} (h : (rdAb' st most).e = 0) : rdN st most ≠ 0 ∧ rdAb' st most = rdN' st most := by
  by_cases h0 : rdN st most = 0
  · rw [rdAb'_zero h0] at h
    exact absurd h (rdF_bad _ (by decide))
  · exact ⟨h0, rdAb'_pos h0⟩
theorem rdAb_num {n most : Int} (r : List UInt8) (h0 : 1 ≤ n) (h1 : n ≤ 1099511627776) (h : n ≤ most) : rdN ⟨num n ++ r, 0⟩ most = n ∧ rdAb' ⟨num n ++ r, 0⟩ most = ⟨r, 0⟩ := by
  obtain ⟨a, b⟩ := rdN_num (n := n) (most := most) r (by omega) h1 h
  exact ⟨a, by rw [rdAb'_pos (by rw [a]; omega), b]⟩
theorem rdAb_took {st : Rd} {most : Int} (h : (rdAb' st most).e = 0) : st.e = 0 ∧ st.s = num (rdN st most) ++ (rdAb' st most).s ∧ 1 ≤ rdN st most ∧ rdN st most ≤ most := by
  obtain ⟨h0, h1⟩ := rdAb'_ok h
  rw [h1] at h ⊢
  obtain ⟨e, u, e1, e2, e3⟩ := rdN_took h
  have := (rdN_bd st most).1
  exact ⟨e, by rw [e1, e2], by omega, e3⟩
theorem rdN_took2 {st : Rd} {most : Int} (h : (rdN' st most).e = 0) : st.e = 0 ∧ st.s = num (rdN st most) ++ (rdN' st most).s ∧ 0 ≤ rdN st most ∧ rdN st most ≤ most := by
  obtain ⟨e, u, e1, e2, e3⟩ := rdN_took h
  exact ⟨e, by rw [e1, e2], (rdN_bd st most).1, e3⟩
open Go.RowKit

def longF (f : List Val) : Bool := f.any fun x => decide (200 < x.s.length)
set_option maxHeartbeats 400000 in
theorem c_Large (f : List Val) (w : World) (hf : f.length = 8) : Calls Tryd.prog 18 #[.agg (farr f)] w (RetV w (.bool (longF f))) := by
  go_enter Tryd.func18, Tryd.ntmps18
  go_wp2
  go_loopw [3] (fun i wr => ∃ k : Nat, k ≤ 8 ∧ i = .int .i64 k ∧ (f.take k).any (fun x => decide (200 < x.s.length)) = false ∧ wr = w.alloc (.cells (farr f) 26)) (fun i _ => 8 - (intOf i).toNat)
  case atStart => exact ⟨0, by omega, rfl, rfl, rfl⟩
  case round =>
    obtain ⟨k, hk, rfl, hno, rfl⟩ := hrel
    have NO := lh hno
    clear hno
    by_cases hlt : k < 8
    · obtain ⟨c0, c1, c2⟩ := farr_get (f := f) (k := k) (by omega)
      have T := lh (show f.take (k + 1) = f.take k ++ [f[k]'(by omega)] from List.take_succ_eq_append_getElem (by omega))
      have M := lh (List.getElem_mem (l := f) (n := k) (by omega))
      by_cases hb : 200 < (f[k]'(by omega)).s.length
      · go_wp2
        go_ret
        refine RetV.bool ?_ (by repeat (first | exact Below.refl _ _ | refine Below.drew ?_ | refine Below.alloc ?_ (by first | omega | (simp; done) | (simp; omega)) _ | refine Below.setCell ?_ (by first | omega | (simp; done) | (simp; omega)) _ | refine Below.trans ?_ (Below.mono (by assumption) (by first | omega | (simp; done) | (simp; omega)))))
        symm
        exact List.any_eq_true.2 ⟨_, M.out, by simpa using hb⟩
      · go_wp2
        go_roundw
        case rel => exact ⟨k + 1, by omega, by go_num, by rw [T.out, List.any_append, NO.out]; simpa using hb, by first | rfl | trivial⟩
        case measure => simp [intOf]; omega
    · have : k = 8 := by omega
      subst this
      go_wp2
      go_ret
      refine RetV.bool ?_ (by repeat (first | exact Below.refl _ _ | refine Below.drew ?_ | refine Below.alloc ?_ (by first | omega | (simp; done) | (simp; omega)) _ | refine Below.setCell ?_ (by first | omega | (simp; done) | (simp; omega)) _ | refine Below.trans ?_ (Below.mono (by assumption) (by first | omega | (simp; done) | (simp; omega)))))
      have := NO.out
      rw [List.take_of_length_le (by omega)] at this
      exact this.symm
def vals (f : List Val) : Bool := f.all Val.ok
def Card.ok (c : Card) : Bool := decide (1 ≤ c.id) && decide (c.id < 1073741824) && decide (1 ≤ c.ver) && decide (c.ver ≤ 1099511627776) && decide (c.lab < 65536) && vals c.f
/-! The program's. -/
end Go.Proofs.YtiedkcijjfmhaaaDoor
namespace Go.Proofs.YtiedkcijjfmhaaaDoor

inductive Trees : Nat → List Node → List Node → Nat → Prop
  | nil (l : List Node) : Trees 0 l l 0
  | cons {x : Node} {l m r : List Node} {n d1 d2 : Nat} : Trees (parts x.op).toNat l m d1 → Trees n m r d2 → Trees (n + 1) (x :: l) r (max (d1 + 1) d2)

theorem parts_toNat (op : Int) : ((parts op).toNat : Int) = parts op := by have := parts_bd op; omega
theorem Trees.length {n : Nat} {l r : List Node} {d : Nat} (h : Trees n l r d) : r.length + n ≤ l.length := by
  induction h with
  | nil l => simp
  | cons _ _ h1 h2 => simp only [List.length_cons]; omega
theorem Trees.zero {l r : List Node} {d : Nat} (h : Trees 0 l r d) : l = r ∧ d = 0 := by cases h; exact ⟨rfl, rfl⟩
theorem Trees.depth_pos {n : Nat} {l r : List Node} {d : Nat} (h : Trees n l r d) : n = 0 ∨ 1 ≤ d := by
  cases h with
  | nil l => exact .inl rfl
  | cons _ _ => right; omega
theorem Trees.append {n k : Nat} {l m r : List Node} {d1 d2 : Nat} (h : Trees n l m d1) : Trees k m r d2 → Trees (n + k) l r (max d1 d2) := by
  induction h generalizing k r d2 with
  | nil l => intro h; simpa using h
  | cons t1 _ _ ih2 =>
    intro h
    have := Trees.cons t1 (ih2 h)
    rw [← Nat.max_assoc] at this
    rw [Nat.add_right_comm]
    exact this
theorem Trees.split {k : Nat} : ∀ {n : Nat} {l r : List Node} {d : Nat}, Trees (n + k) l r d → ∃ m d1 d2, Trees n l m d1 ∧ Trees k m r d2 ∧ d = max d1 d2
  | 0, l, r, d, h => ⟨l, 0, d, .nil l, by simpa using h, by simp⟩
  | n + 1, l, r, d, h => by
    rw [Nat.add_right_comm] at h
    cases h with
    | cons t1 t2 =>
      obtain ⟨m, e1, e2, h1, h2, rfl⟩ := Trees.split t2
      exact ⟨m, _, e2, .cons t1 h1, h2, (Nat.max_assoc ..).symm⟩
theorem Trees.behind {n : Nat} {l r : List Node} {d : Nat} (h : Trees n l r d) : ∃ p, l = p ++ r ∧ ∀ q, Trees n (p ++ q) q d := by
  induction h with
  | nil l => exact ⟨[], rfl, fun q => .nil q⟩
  | @cons x l m r n d1 d2 _ _ h1 h2 =>
    obtain ⟨p1, rfl, g1⟩ := h1
    obtain ⟨p2, rfl, g2⟩ := h2
    exact ⟨x :: (p1 ++ p2), by simp, fun q => by
      have := Trees.cons (x := x) (g1 (p2 ++ q)) (g2 q)
      simpa using this⟩
theorem endFrom_pass {n : Nat} {l r : List Node} {d : Nat} (h : Trees n l r d) : ∀ (k i : Nat), 1 ≤ k → endFrom l ((n + k : Nat) : Int) i = endFrom r k (i + (l.length - r.length)) := by
  induction h with
  | nil l => intro k i hk; simp
  | @cons x l m r n d1 d2 t1 t2 h1 h2 =>
    intro k i hk
    have hl1 := t1.length
    have hl2 := t2.length
    have hp := parts_toNat x.op
    show (if ((n + 1 + k : Nat) : Int) + (parts x.op - 1) = 0 then _ else _) = _
    rw [if_neg (by omega), show ((n + 1 + k : Nat) : Int) + (parts x.op - 1) = (((parts x.op).toNat + (n + k) : Nat) : Int) by omega, h1 (n + k) (i + 1) (by omega), h2 k _ hk]
    congr 1
    simp only [List.length_cons]; omega
theorem endFrom_trees {n : Nat} {l r : List Node} {d : Nat} (h : Trees n l r d) : ∀ (i : Nat), 1 ≤ n → endFrom l (n : Int) i = ((i + (l.length - r.length) : Nat) : Int) := by
  induction h with
  | nil l => intro i hk; omega
  | @cons x l m r n d1 d2 t1 t2 h1 h2 =>
    intro i _
    have hl1 := t1.length
    have hl2 := t2.length
    have hp := parts_toNat x.op
    show (if ((n + 1 : Nat) : Int) + (parts x.op - 1) = 0 then _ else _) = _
    by_cases hz : ((n + 1 : Nat) : Int) + (parts x.op - 1) = 0
    · rw [if_pos hz]
      have hn : n = 0 := by omega
      have hp0 : (parts x.op).toNat = 0 := by omega
      subst hn
      rw [hp0] at t1
      obtain ⟨rfl, _⟩ := t1.zero
      obtain ⟨rfl, _⟩ := t2.zero
      simp only [List.length_cons]; omega
    · rw [if_neg hz]
      rcases Nat.eq_zero_or_pos n with rfl | hn
      · obtain ⟨rfl, _⟩ := t2.zero
        rw [show ((0 + 1 : Nat) : Int) + (parts x.op - 1) = (((parts x.op).toNat : Nat) : Int) by omega, h1 (i + 1) (by omega)]
        simp only [List.length_cons]; omega
      · rw [show ((n + 1 : Nat) : Int) + (parts x.op - 1) = (((parts x.op).toNat + n : Nat) : Int) by omega, endFrom_pass t1 n (i + 1) hn, h2 _ hn]
        simp only [List.length_cons]; omega
theorem trees_of_end : ∀ (l : List Node) (n i : Nat) (e : Int), 1 ≤ n → endFrom l (n : Int) i = e → e ≠ -1 → ∃ r d, Trees n l r d
  | [], n, i, e, _, h, he => absurd h.symm he
  | x :: l, n, i, e, hn, h, he => by
    have hp := parts_toNat x.op
    have hpb := parts_bd x.op
    have h' : (if (n : Int) + (parts x.op - 1) = 0 then (i : Int) + 1 else endFrom l (n + (parts x.op - 1)) (i + 1)) = e := h
    obtain ⟨n, rfl⟩ : ∃ m, n = m + 1 := ⟨n - 1, by omega⟩
    by_cases hz : ((n + 1 : Nat) : Int) + (parts x.op - 1) = 0
    · have hn : n = 0 := by omega
      have hp0 : (parts x.op).toNat = 0 := by omega
      subst hn
      exact ⟨l, _, .cons (by rw [hp0]; exact .nil l) (.nil l)⟩
    · rw [if_neg hz, show ((n + 1 : Nat) : Int) + (parts x.op - 1) = (((parts x.op).toNat + n : Nat) : Int) by omega] at h'
      obtain ⟨r, d, ht⟩ := trees_of_end l _ (i + 1) e (by omega) h' he
      obtain ⟨m, d1, d2, t1, t2, rfl⟩ := ht.split
      exact ⟨r, _, .cons t1 t2⟩
def Tree (l : List Node) (d : Nat) : Prop := Trees 1 l [] d
theorem Tree.ne {l : List Node} {d : Nat} (h : Tree l d) : 1 ≤ l.length := by have := Trees.length h; simpa using this
theorem Tree.pos {l : List Node} {d : Nat} (h : Tree l d) : 1 ≤ d := (Trees.depth_pos h).resolve_left (by omega)
theorem endAt_tree {l : List Node} {d : Nat} (h : Tree l d) : endAt l 0 = l.length := by
  have := endFrom_trees h 0 (Nat.le_refl _)
  rw [show (0 : Int) = ((0 : Nat) : Int) from rfl, endAt_nat]
  simpa using this
theorem tree_of_end {l : List Node} (_hl : l ≠ []) (h : endAt l 0 = l.length) : ∃ d, Tree l d := by
  rw [show (0 : Int) = ((0 : Nat) : Int) from rfl, endAt_nat] at h
  obtain ⟨r, d, ht⟩ := trees_of_end _ 1 0 _ (Nat.le_refl _) h (by omega)
  simp only [List.drop_zero] at ht h
  have := endFrom_trees ht 0 (Nat.le_refl _)
  have h1 : endFrom l (1 : Int) 0 = l.length := h
  have h2 : endFrom l (1 : Int) 0 = ((0 + (l.length - r.length) : Nat) : Int) := this
  have hlen := ht.length
  have hr : r.length = 0 := by omega
  rw [List.eq_nil_of_length_eq_zero hr] at ht
  exact ⟨d, ht⟩
theorem Tree.head {l : List Node} {d : Nat} (h : Tree l d) : ∃ x r d', l = x :: r ∧ Trees (parts x.op).toNat r [] d' ∧ d = d' + 1 := by
  unfold Tree at h
  cases h with
  | cons t1 t2 =>
    obtain ⟨rfl, rfl⟩ := t2.zero
    exact ⟨_, _, _, rfl, t1, by omega⟩
/-! What trees are cut into. -/
def cut : Nat → List Node → List (List Node)
  | 0, _ => []
  | n + 1, l => l.take (endFrom l 1 0).toNat :: cut n (l.drop (endFrom l 1 0).toNat)
theorem cut_trees : ∀ {n : Nat} {l r : List Node} {d : Nat}, Trees n l r d → (cut n l).length = n ∧ l = (cut n l).flatten ++ r ∧ (∀ k ∈ cut n l, ∃ dk, Tree k dk ∧ dk ≤ d)
  | 0, l, r, d, h => by obtain ⟨rfl, _⟩ := h.zero; simp [cut]
  | n + 1, l, r, d, h => by
    rw [Nat.add_comm] at h
    obtain ⟨m, d1, d2, t1, t2, rfl⟩ := h.split
    have he := endFrom_trees t1 0 (Nat.le_refl _)
    obtain ⟨p, rfl, hp⟩ := t1.behind
    have he' : endFrom (p ++ m) 1 0 = (p.length : Int) := by
      have : ((1 : Nat) : Int) = 1 := rfl
      rw [this] at he
      rw [he]; simp
    obtain ⟨g1, g2, g3⟩ := cut_trees t2
    have hc : cut (n + 1) (p ++ m) = p :: cut n m := by simp [cut, he']
    rw [hc]
    refine ⟨by simp [g1], by rw [List.flatten_cons, List.append_assoc, ← g2], fun k hk => ?_⟩
    rcases List.mem_cons.1 hk with rfl | hk
    · exact ⟨d1, by have := hp []; simpa [Tree] using this, by omega⟩
    · obtain ⟨dk, h1, h2⟩ := g3 k hk
      exact ⟨dk, h1, by omega⟩

theorem cut_step {l : List Node} {n i : Nat} {r : List Node} {d : Nat} (h : Trees (n + 1) (l.drop i) r d) :
    ∃ s d1 d2, 1 ≤ s ∧ i + s ≤ l.length ∧ endAt l i = ((i + s : Nat) : Int) ∧ cut (n + 1) (l.drop i) = (l.drop i).take s :: cut n (l.drop (i + s)) ∧ Trees n (l.drop (i + s)) r d1 ∧ Tree ((l.drop i).take s) d2 := by
  rw [Nat.add_comm] at h
  obtain ⟨m, d1, d2, t1, t2, rfl⟩ := h.split
  have he0 := endFrom_trees t1 0 (Nat.le_refl _)
  have hei := endFrom_trees t1 i (Nat.le_refl _)
  obtain ⟨p, hp, hpq⟩ := t1.behind
  have hlen := t1.length
  have hpl : (l.drop i).length = p.length + m.length := by rw [hp]; simp
  have hs : (endFrom (l.drop i) 1 0).toNat = p.length := by
    have : ((1 : Nat) : Int) = 1 := rfl
    rw [this] at he0
    rw [he0]; omega
  have hd : (l.drop i).drop p.length = m := by rw [hp]; simp
  have ht : (l.drop i).take p.length = p := by rw [hp]; simp
  rw [List.length_drop] at hpl hlen
  refine ⟨p.length, d2, d1, by omega, by omega, ?_, ?_, ?_, ?_⟩
  · rw [endAt_nat]
    have : ((1 : Nat) : Int) = 1 := rfl
    rw [this] at hei
    rw [hei, List.length_drop]; omega
  · simp only [cut, hs]
    rw [List.drop_drop]
  · rw [← List.drop_drop, hd]; exact t2
  · rw [ht]; have := hpq []; simpa [Tree] using this
/-! How deep: by the places that are open. -/
def dec : List Int → List Int
  | [] => []
  | x :: s => if x - 1 = 0 then dec s else (x - 1) :: s
def push (p : Int) (s : List Int) : List Int := if p = 0 then dec s else p :: s
def norm : List Int → List Int
  | [] => []
  | x :: s => if x = 0 then dec s else x :: s
theorem norm_zero (s : List Int) : norm (0 :: s) = dec s := by simp [norm]
theorem dec_norm (y : Int) (s : List Int) : dec (y :: s) = norm ((y - 1) :: s) := rfl
theorem norm_keep {x : Int} {s : List Int} (h : x ≠ 0) : norm (x :: s) = x :: s := by simp [norm, h]
def deepFold : List Node → List Int → Int → Int
  | [], _, d => d
  | x :: r, s, d => deepFold r (push (parts x.op) s) (max d (s.length + 1))
theorem deepFold_trees {n : Nat} {l r : List Node} {d : Nat} (h : Trees n l r d) : ∀ (t : Int) (s : List Int) (deep : Int), 0 ≤ deep → (n : Int) ≤ t → 1 ≤ t →
    deepFold l (t :: s) deep = deepFold r (if n = 0 then t :: s else push (t - n) s) (if n = 0 then deep else max deep ((s.length : Int) + 1 + d)) := by
  induction h with
  | nil l => intro t s deep _ _ _; simp
  | @cons x l m r n d1 d2 t1 t2 h1 h2 =>
    intro t s deep hd ht ht1
    have hp := parts_toNat x.op
    have hnext : deepFold (x :: l) (t :: s) deep = deepFold m (push (t - 1) s) (max deep ((s.length : Int) + 1 + (d1 + 1 : Nat))) := by
      show deepFold l (push (parts x.op) (t :: s)) (max deep (((t :: s).length : Int) + 1)) = _
      rw [← hp]
      rcases Nat.eq_zero_or_pos (parts x.op).toNat with h0 | h0
      · rw [h0] at t1
        obtain ⟨rfl, rfl⟩ := t1.zero
        rw [h0]
        simp only [push, dec, List.length_cons]
        congr 1
      · have e1 : push (((parts x.op).toNat : Nat) : Int) (t :: s) = ((parts x.op).toNat : Int) :: t :: s := by unfold push; rw [if_neg (by omega)]
        rw [e1, h1 _ (t :: s) _ (by omega) (Int.le_refl _) (by omega), if_neg (by omega), if_neg (by omega)]
        have e2 : push (((parts x.op).toNat : Int) - ((parts x.op).toNat : Nat)) (t :: s) = push (t - 1) s := by
          rw [Int.sub_self]; simp only [push, dec, if_true]
        rw [e2]
        congr 1
        simp only [List.length_cons]; omega
    rw [hnext]
    rcases Nat.eq_zero_or_pos n with rfl | hn
    · obtain ⟨rfl, rfl⟩ := t2.zero
      rw [if_neg (by omega), if_neg (by omega)]
      first | rfl | (congr 1; done) | (congr 1; omega)
    · have e1 : push (t - 1) s = (t - 1) :: s := by unfold push; rw [if_neg (by omega)]
      rw [e1, h2 (t - 1) s _ (by omega) (by omega) (by omega), if_neg (by omega), if_neg (by omega), if_neg (by omega), if_neg (by omega)]
      have e2 : t - 1 - (n : Int) = t - ((n + 1 : Nat) : Int) := by omega
      rw [e2]
      congr 1
      omega
theorem deepFold_tree {l : List Node} {d : Nat} (h : Tree l d) : deepFold l [] 0 = d := by
  obtain ⟨x, r, d', rfl, t, rfl⟩ := h.head
  have hp := parts_toNat x.op
  show deepFold r (push (parts x.op) []) (max 0 ((([] : List Int).length : Int) + 1)) = _
  rw [← hp]
  rcases Nat.eq_zero_or_pos (parts x.op).toNat with h0 | h0
  · rw [h0] at t
    obtain ⟨rfl, rfl⟩ := t.zero
    simp only [deepFold, List.length_nil]; omega
  · have e1 : push (((parts x.op).toNat : Nat) : Int) [] = [((parts x.op).toNat : Int)] := by unfold push; rw [if_neg (by omega)]
    rw [e1, deepFold_trees t _ [] _ (by omega) (Int.le_refl _) (by omega)]
    simp only [deepFold, if_neg (show ¬ (parts x.op).toNat = 0 by omega), List.length_nil]
    omega
def depth (l : List Node) : Int := if l = [] ∨ endAt l 0 ≠ l.length then 0 else deepFold l [] 0
theorem depth_tree {l : List Node} {d : Nat} (h : Tree l d) : depth l = d := by
  unfold depth
  rw [if_neg (by
    rintro (rfl | h1)
    · have := h.ne; simp at this
    · exact h1 (endAt_tree h)), deepFold_tree h]
theorem depth_cut {n : Nat} {l r : List Node} {d : Nat} (h : Trees n l r d) : ∀ a : Int, 0 ≤ a → ((cut n l).map depth).foldl max a = max a d := by
  induction n generalizing l d with
  | zero => intro a ha; obtain ⟨rfl, rfl⟩ := h.zero; simp [cut]; omega
  | succ n ih =>
    intro a ha
    rw [Nat.add_comm] at h
    obtain ⟨m, d1, d2, t1, t2, rfl⟩ := h.split
    have he := endFrom_trees t1 0 (Nat.le_refl _)
    obtain ⟨p, rfl, hp⟩ := t1.behind
    have he' : endFrom (p ++ m) 1 0 = (p.length : Int) := by
      have : ((1 : Nat) : Int) = 1 := rfl
      rw [this] at he
      rw [he]; simp
    have hc : cut (n + 1) (p ++ m) = p :: cut n m := by simp [cut, he']
    have hd : depth p = d1 := depth_tree (by have := hp []; simpa [Tree] using this)
    rw [hc, List.map_cons, List.foldl_cons, hd, ih t2 _ (by omega)]
    omega
theorem flatten_len {α : Type} : ∀ (ks : List (List α)) (k : List α), k ∈ ks → k.length ≤ ks.flatten.length
  | [], _, h => by cases h
  | x :: r, k, h => by
    rw [List.flatten_cons, List.length_append]
    rcases List.mem_cons.1 h with rfl | h
    · omega
    · have := flatten_len r k h; omega
def check (l : List Node) : Int :=
  if 31 < l.length then 4 else if l.length = 0 ∨ endAt l 0 ≠ l.length then 1 else if (l.any fun x => !x.ok) = true then 1 else if 8 < depth l then 5 else 0
theorem depth_bd (l : List Node) : 0 ≤ depth l ∧ depth l ≤ l.length := by
  unfold depth
  by_cases h : l = [] ∨ endAt l 0 ≠ l.length
  · rw [if_pos h]; omega
  · rw [if_neg h]
    have h1 : l ≠ [] := fun e => h (.inl e)
    have h2 : endAt l 0 = l.length := Decidable.byContradiction fun e => h (.inr e)
    obtain ⟨d, ht⟩ := tree_of_end h1 h2
    rw [deepFold_tree ht]
    have key : ∀ {n : Nat} {l r : List Node} {d : Nat}, Trees n l r d → d + r.length ≤ l.length := by
      intro n l r d h
      induction h with
      | nil l => simp
      | @cons x l m r n d1 d2 t1 t2 h1 h2 =>
        have := t1.length
        have := t2.length
        simp only [List.length_cons]; omega
    have := key ht
    simp at this
    omega
def firstBad : List Node → Nat → Int
  | [], _ => -1
  | x :: r, i => if x.ok = true then firstBad r (i + 1) else i
theorem firstBad_any : ∀ (l : List Node) (i : Nat), decide (0 ≤ firstBad l i) = l.any fun x => !x.ok
  | [], i => rfl
  | x :: r, i => by
    unfold firstBad
    cases hx : x.ok
    · simp [hx]
    · simp [hx, firstBad_any r (i + 1)]
theorem firstBad_at (l : List Node) (k : Nat) (h : k < l.length) : firstBad (l.drop k) k = if (l[k]).ok = true then firstBad (l.drop (k+1)) (k+1) else (k : Int) := by
  rw [List.drop_eq_getElem_cons h]; rfl
open Go.RowKit

def RetNx (s : List UInt8) (most : Int) (w : World) (e : Ending) (w' : World) : Prop :=
  e = .returned (.tuple #[.int .i64 (nVal s most), .int .i64 (nLen s most), .int .i64 (nErr s most)]) ∧ w = w'
theorem RetNx.bad {s : List UInt8} {most : Int} {w : World} {e : Int} (h : nErr s most = e) (h0 : e ≠ 0) : RetNx s most w (.returned (.tuple #[.int .i64 0, .int .i64 0, .int .i64 e])) w := by
  refine ⟨?_, rfl⟩
  rw [nVal_bad (by omega), nLen_bad (by omega), h]; rfl

open Go.RowKit

section
variable {P : Program} {w : World}
theorem stop_bin {ops : Array Oper} {rest : List Oper} {o : Oper} {a : Act} {Q : Exit → Act → World → Prop} (op : BinOp) (ty : TypeId) (x y : Operand) (ty2 : TypeId) (_ : o.op = .binOp op ty x y ty2) (h : Stop (wpList P ops Q (o :: rest) a w)) : wpList P ops Q (o :: rest) a w := h
theorem wpList_neqS {ops : Array Oper} {rest : List Oper} {o : Oper} {a : Act} {Q : Exit → Act → World → Prop} (hw : Region.wanted o (yielded ops a.tmps) = true) (ty : TypeId) (x y : Operand) (ty2 : TypeId) (ho : o.op = .binOp .neq ty x y ty2)
    (xs ys : Array Value) (hx : a.eval x = .agg xs) (hy : a.eval y = .agg ys) (hg : P.eqGuardType P.depth ty = false) (b : Bool) (he : (Op.equalIn 10000 ty (.agg xs) (.agg ys)).run P w = .ok b w)
    (h : wpList P ops Q rest (a.put o.dst (.bool (!b))) w) : wpList P ops Q (o :: rest) a w := by
  refine wpList_g hw fun K hK => ?_
  unfold Oper.wp execOp
  simp only [ho, hx, hy, Sem.run_bind, Sem.run_pure, Result.andThen_ok, run_eqGuard_agg w _ _ _ _ _ _ hg, run_neq_struct, he]
  exact hK _ _ h
theorem wpList_eqlS {ops : Array Oper} {rest : List Oper} {o : Oper} {a : Act} {Q : Exit → Act → World → Prop} (hw : Region.wanted o (yielded ops a.tmps) = true) (ty : TypeId) (x y : Operand) (ty2 : TypeId) (ho : o.op = .binOp .eql ty x y ty2)
    (xs ys : Array Value) (hx : a.eval x = .agg xs) (hy : a.eval y = .agg ys) (hg : P.eqGuardType P.depth ty = false) (b : Bool) (he : (Op.equalIn 10000 ty (.agg xs) (.agg ys)).run P w = .ok b w)
    (h : wpList P ops Q rest (a.put o.dst (.bool b)) w) : wpList P ops Q (o :: rest) a w := by
  refine wpList_g hw fun K hK => ?_
  unfold Oper.wp execOp
  simp only [ho, hx, hy, Sem.run_bind, Sem.run_pure, Result.andThen_ok, run_eqGuard_agg w _ _ _ _ _ _ hg, run_eql_struct, he]
  exact hK _ _ h
end
theorem gP : Tryd.prog.eqGuardType Tryd.prog.depth 28 = false := by kernel_rfl
theorem gE : Tryd.prog.eqGuardType Tryd.prog.depth 30 = false := by kernel_rfl
open Go.RowKit

def joined (op : Int) (l : List Node) : List Node := ⟨op, 0, ⟨0, 0, []⟩⟩ :: l
theorem Tree.ahead {a : List Node} {d : Nat} (h : Tree a d) (q : List Node) : Trees 1 (a ++ q) q d := by
  obtain ⟨p, hp, hq⟩ := Trees.behind h
  rw [List.append_nil] at hp
  subst hp
  exact hq q
end Go.Proofs.YtiedkcijjfmhaaaDoor
