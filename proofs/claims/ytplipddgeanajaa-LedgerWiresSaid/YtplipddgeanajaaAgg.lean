/-
  Laws for structs and arrays of many cells: reading and writing a part of a block, an element of an array, equality.
-/
import Derived.Test.YtplipddgeanajaaCrd
import Derived.Test.YtplipddgeanajaaStr
import Derived.Test.YtplipddgeanajaaProg
import Derived.ChangeKeysEq
import Derived.Laws.StructEq
namespace Go.Proofs.Ytplipddgeanajaa
open Go.RowKit

section
variable {P : Program} {w : World}
theorem Str.agg {ty : TypeId} {n : Nat} (S : Str P ty n) (w : World) : (isAgg ty).run P w = .ok true w := by
  obtain ⟨d, h1, h2⟩ := S.desc
  unfold isAgg
  rw [Sem.run_bind, run_underlying h1 w]
  cases d <;> simp_all
theorem Str.sizeOf {ty : TypeId} {n : Nat} (S : Str P ty n) (w : World) : (Go.sizeOf ty).run P w = .ok n w := by
  have h := S.size
  cases hq : P.info? ty with
  | none => rw [hq] at h; cases h
  | some i =>
    rw [hq] at h
    simp at h
    simp [Go.sizeOf, typeInfo, hq, h]
theorem run_loadVar_at (g off : Nat) (cs : Array Value) (ty : TypeId) (hcell : ∀ (j : Nat) u, cs[j]? = some u → w.cell? ⟨g, off + j, none⟩ = some u) {n : Nat} (S : Str P ty n) (hn : cs.size = n) :
    (loadVar ty ⟨g, off, none⟩).run P w = .ok (.agg cs) w := by
  have hl : (loadCells ⟨g, off, none⟩ cs.toList.length).run P w = .ok cs.toList.toArray w :=
    run_loadCells_list (P := P) w ⟨g, off, none⟩ cs.toList (fun j v hv => by
      rw [add_lit']
      exact hcell j v (by simpa using hv))
  simp only [Array.length_toList, Array.toArray_toList, hn] at hl
  simp only [loadVar, Sem.run_bind, S.agg, S.sizeOf, Result.andThen_ok, if_true, hl, Sem.run_pure]
theorem wpList_loadAt {ops : Array Oper} {rest : List Oper} {o : Oper} {a : Act} {Q : Exit → Act → World → Prop} (hgd : o.guard = none) (ty : TypeId) (x : Operand) (ho : o.op = .load ty x)
    (g off : Nat) (hx : a.eval x = .pointer (some ⟨g, off, none⟩)) (cs : Array Value) (hcell : ∀ (j : Nat) u, cs[j]? = some u → w.cell? ⟨g, off + j, none⟩ = some u) {n : Nat} (S : Str P ty n) (hn : cs.size = n)
    (h : wpList P ops Q rest (a.put o.dst (.agg cs)) w) : wpList P ops Q (o :: rest) a w := by
  refine wpList_plain hgd fun K hK => ?_
  unfold Oper.wp execOp
  simp only [ho, hx, Instr.loadAt, Instr.sureAddr, Sem.run_bind, Sem.run_pure, Result.andThen_ok, run_loadVar_at g off cs ty hcell S hn]
  exact hK _ _ h

/-- A guarded operation that is wanted. -/
theorem wpList_g {ops : Array Oper} {rest : List Oper} {o : Oper} {a : Act} {Q : Exit → Act → World → Prop} (hw : Region.wanted o (yielded ops a.tmps) = true)
    (h : ∀ K : Act → World → Prop, (∀ a w, wpList P ops Q rest a w → K a w) → o.wp P a w K Q) : wpList P ops Q (o :: rest) a w := by
  rw [wpList, if_pos hw]
  exact .inl (h _ fun _ _ h => h)
theorem wpList_loadAtG {ops : Array Oper} {rest : List Oper} {o : Oper} {a : Act} {Q : Exit → Act → World → Prop} (hw : Region.wanted o (yielded ops a.tmps) = true) (ty : TypeId) (x : Operand) (ho : o.op = .load ty x)
    (g off : Nat) (hx : a.eval x = .pointer (some ⟨g, off, none⟩)) (cs : Array Value) (hcell : ∀ (j : Nat) u, cs[j]? = some u → w.cell? ⟨g, off + j, none⟩ = some u) {n : Nat} (S : Str P ty n) (hn : cs.size = n)
    (h : wpList P ops Q rest (a.put o.dst (.agg cs)) w) : wpList P ops Q (o :: rest) a w := by
  refine wpList_g hw fun K hK => ?_
  unfold Oper.wp execOp
  simp only [ho, hx, Instr.loadAt, Instr.sureAddr, Sem.run_bind, Sem.run_pure, Result.andThen_ok, run_loadVar_at g off cs ty hcell S hn]
  exact hK _ _ h
theorem stop_loadG {ops : Array Oper} {rest : List Oper} {o : Oper} {a : Act} {Q : Exit → Act → World → Prop} (ty : TypeId) (x : Operand) (_ : o.op = .load ty x) (h : Stop (wpList P ops Q (o :: rest) a w)) : wpList P ops Q (o :: rest) a w := h
theorem Blk.all {g : Nat} {cs : Array Value} (h : Blk w g cs) (j : Nat) (u : Value) (hu : cs[j]? = some u) : w.cell? ⟨g, 0 + j, none⟩ = some u := by rw [Nat.zero_add]; exact h.cell hu
def putAt (cs : Array Value) (j : Nat) : List Value → Array Value
  | [] => cs
  | v :: r => putAt (cs.setIfInBounds j v) (j + 1) r
theorem putAt_size : ∀ (vs : List Value) (cs : Array Value) (j : Nat), (putAt cs j vs).size = cs.size
  | [], _, _ => rfl
  | v :: r, cs, j => by rw [putAt, putAt_size r]; simp
theorem putAt_far : ∀ (vs : List Value) (cs : Array Value) (j k : Nat), k < j ∨ j + vs.length ≤ k → (putAt cs j vs)[k]? = cs[k]?
  | [], _, _, _, _ => rfl
  | v :: r, cs, j, k, h => by
    simp only [List.length_cons] at h
    rw [putAt, putAt_far r _ _ _ (by omega), Array.getElem?_setIfInBounds_ne (by omega)]
theorem putAt_in : ∀ (vs : List Value) (cs : Array Value) (j i : Nat), j + vs.length ≤ cs.size → i < vs.length → (putAt cs j vs)[j + i]? = vs[i]?
  | [], _, _, _, _, h => by simp at h
  | v :: r, cs, j, 0, hs, _ => by
    simp only [List.length_cons] at hs
    rw [putAt, putAt_far r _ _ _ (by omega), Nat.add_zero, Array.getElem?_setIfInBounds_self_of_lt (by omega)]; rfl
  | v :: r, cs, j, i + 1, hs, h => by
    simp only [List.length_cons] at hs h
    have := putAt_in r (cs.setIfInBounds j v) (j + 1) i (by simp; omega) (by omega)
    rw [putAt, show j + (i + 1) = j + 1 + i by omega, this]; rfl
theorem run_storeCells_at (g off : Nat) : ∀ (vs : List Value) (i : Nat) (cs : Array Value) (w : World), Blk w g cs → off + i + vs.length ≤ cs.size → (∀ v ∈ vs, v.oneCell' = true) →
    ∃ w', (storeCells ⟨g, off, none⟩ vs i).run P w = .ok () w' ∧ Blk w' g (putAt cs (off + i) vs) ∧ Kept (some g) w.heap.size w w'
  | [], i, cs, w, hb, _, _ => ⟨w, rfl, hb, Kept.refl _ _ _⟩
  | v :: r, i, cs, w, hb, hl, h1 => by
    simp only [List.length_cons] at hl
    have hi : off + i < cs.size := by omega
    have hcell : w.cell? ⟨g, off + i, none⟩ = some cs[off + i] := hb.cell (by simp [hi])
    have hfro := hb.frozen (off + i)
    have hst : (store ((⟨g, off, none⟩ : Addr).add i) v).run P w = .ok () (w.setCell ⟨g, off + i, none⟩ v) := by
      rw [add_lit', run_store P w _ v _ (h1 v (by simp)), hcell]
      simp [hfro]
    obtain ⟨w', hr, hb', hk⟩ := run_storeCells_at g off r (i + 1) _ _ (hb.store (off + i) v) (by simp; omega) (fun x hx => h1 x (by simp [hx]))
    have k1 : Kept (some g) w.heap.size w (w.setCell ⟨g, off + i, none⟩ v) := Kept.setCell (q := ⟨g, off + i, none⟩) (Kept.refl (some g) _ w) (.inr rfl) v
    refine ⟨w', ?_, hb', k1.trans ?_⟩
    · simp only [storeCells, Sem.run_bind, hst, Result.andThen_ok, hr]
    · simpa [World.setCell] using hk
theorem wpList_storeAt {ops : Array Oper} {rest : List Oper} {o : Oper} {a : Act} {Q : Exit → Act → World → Prop} (hgd : o.guard = none) (ty : TypeId) (x y : Operand) (ho : o.op = .store ty x y)
    (g off : Nat) (cells : Array Value) (hx : a.eval x = .pointer (some ⟨g, off, none⟩)) (hy : a.eval y = .agg cells) (old : Array Value) (hb : Blk w g old) {n : Nat} (S : Str P ty n) (hn : cells.size = n)
    (hold : off + cells.size ≤ old.size) (h1 : ∀ v ∈ cells.toList, v.oneCell' = true)
    (h : ∀ w', Blk w' g (putAt old off cells.toList) → Kept (some g) w.heap.size w w' → wpList P ops Q rest (a.put o.dst undef) w') : wpList P ops Q (o :: rest) a w := by
  refine wpList_plain hgd fun K hK => ?_
  obtain ⟨w', hr, hb', hk⟩ := run_storeCells_at (P := P) g off cells.toList 0 old w hb (by simpa using hold) h1
  have hs : (storeVar ty ⟨g, off, none⟩ (.agg cells)).run P w = .ok () w' := by
    simp only [storeVar, Sem.run_bind, S.sizeOf, Result.andThen_ok, Value.cells, hn, ne_eq, not_true_eq_false, if_false, hr]
  unfold Oper.wp execOp
  simp only [ho, hx, hy, Instr.storeAt, Instr.sureAddr, Sem.run_bind, Sem.run_pure, Result.andThen_ok, hs]
  exact hK _ _ (h w' hb' hk)
theorem run_index_agg {T elem : TypeId} {len n : Nat} (hT : P.underlying T = some (.array len elem)) (S : Str P elem n) (cs : Array Value) (k : Nat) (hk : k < len) (w : World) :
    (Instr.index T (.agg cs) (.int .i64 k)).run P w = .ok (.agg (cs.extract (k * n) (k * n + n))) w := by
  simp [Instr.index, asIntOf, run_underlying hT, S.sizeOf, part, S.agg, Sem.run_bind, hk]
end
theorem farr_extract {f : List Val} {k : Nat} (h : k < f.length) : (farr f).extract (k * 3) (k * 3 + 3) = #[.int .i64 f[k].kind, .int .i64 f[k].n, .string (str f[k].s)] := by
  obtain ⟨h0, h1, h2⟩ := farr_get h
  have hs := farr_size f
  apply Array.ext_getElem?
  intro i
  rw [Array.getElem?_extract]
  rcases i with _ | _ | _ | i
  · simp [h0]; omega
  · simp [h1]; omega
  · simp [h2]; omega
  · simp; omega
theorem strV : Str Try.prog 56 3 := ⟨⟨_, Try.underlying56, rfl⟩, by kernel_rfl⟩
theorem strF : Str Try.prog 57 24 := ⟨⟨_, Try.underlying57, rfl⟩, by kernel_rfl⟩
theorem strC : Str Try.prog 59 27 := ⟨⟨_, Try.underlying59, rfl⟩, by kernel_rfl⟩
theorem index_farr {f : List Val} (hf : f.length = 8) (k : Nat) (hk : k < 8) (w : World) :
    (Instr.index 57 (.agg (farr f)) (.int .i64 k)).run Try.prog w = .ok (.agg #[.int .i64 (f[k]'(by omega)).kind, .int .i64 (f[k]'(by omega)).n, .string (str (f[k]'(by omega)).s)]) w := by
  rw [run_index_agg Try.underlying57 strV (farr f) k hk w, farr_extract (by omega)]

/-! Equality. -/
def eqF (d : Nat) (xs ys : Array Value) : List (Bool × TypeId × Nat) → Sem Bool
  | [] => pure true
  | (b, t, off) :: r => if b = false then do
      let a ← part t xs off
      let c ← part t ys off
      let q ← Op.equalIn d t a c
      if (!q) = true then pure false else eqF d xs ys r
    else eqF d xs ys r
theorem eqFields_eqF (d : Nat) (xs ys : Array Value) : ∀ fs : List Field, Op.eqFields d xs ys fs = eqF d xs ys (fs.map fun f => (f.name == "_", f.type, f.offset))
  | [] => rfl
  | f :: fs => by
    rw [List.map_cons, eqF, Op.eqFields, eqFields_eqF d xs ys fs]
    by_cases h : f.name = "_"
    · simp [h]
    · have h' : (f.name == "_") = false := by simpa using h
      simp [h, h']
section
variable {P : Program} {w : World}
theorem part_agg {ty : TypeId} {n : Nat} (S : Str P ty n) (xs : Array Value) (off : Nat) : (part ty xs off).run P w = .ok (.agg (xs.extract off (off + n))) w := by
  simp [part, S.agg, S.sizeOf, Sem.run_bind]
theorem eqF_nil (d : Nat) (xs ys : Array Value) : (eqF d xs ys []).run P w = .ok true w := by simp [eqF]
theorem eqF_cons (d : Nat) (xs ys : Array Value) (t : TypeId) (off : Nat) (r : List (Bool × TypeId × Nat)) {a b : Value} {p q : Bool} (ha : (part t xs off).run P w = .ok a w) (hb : (part t ys off).run P w = .ok b w)
    (he : (Op.equalIn d t a b).run P w = .ok p w) (hr : (eqF d xs ys r).run P w = .ok q w) : (eqF d xs ys ((false, t, off) :: r)).run P w = .ok (p && q) w := by
  simp only [eqF, if_true, Sem.run_bind, ha, hb, he, Result.andThen_ok, Sem.run_ite, hr, Sem.run_pure]
  cases p <;> simp
theorem eqS (d : Nat) {t : TypeId} (xs ys : Array Value) (l : List (Bool × TypeId × Nat)) (ht : P.underlying t = some (.struct (P.fieldsOf t))) (hp : P.stoodInHeld t = false) (hl : (P.fieldsOf t).toList.map (fun f => (f.name == "_", f.type, f.offset)) = l)
    {q : Bool} (h : (eqF d xs ys l).run P w = .ok q w) : (Op.equalIn (d + 1) t (.agg xs) (.agg ys)).run P w = .ok q w := by
  rw [run_equalIn_struct w d t xs ys ht hp, eqFields_eqF, hl, h]
end
theorem plain3 : Try.prog.plainKey 3 = true := by kernel_rfl
theorem plainS : Try.prog.plainKey 9 = true := by kernel_rfl
theorem plain32 : Try.prog.plainKey 35 = true := by kernel_rfl
abbrev Val.c3 (x : Val) : Array Value := #[.int .i64 x.kind, .int .i64 x.n, .string (str x.s)]
theorem f_val : (Try.prog.fieldsOf 56).toList.map (fun f => (f.name == "_", f.type, f.offset)) = [(false, 3, 0), (false, 3, 1), (false, 9, 2)] := by kernel_rfl
theorem u_val : Try.prog.underlying 56 = some (.struct (Try.prog.fieldsOf 56)) := by kernel_rfl
theorem h_val : Try.prog.stoodInHeld 56 = false := by kernel_rfl
set_option maxRecDepth 100000 in
theorem eq_val (d : Nat) (x y : Val) (w : World) : (Op.equalIn (d + 2) 56 (.agg x.c3) (.agg y.c3)).run Try.prog w = .ok (decide (x = y)) w := by
  have h : (eqF (d + 1) x.c3 y.c3 [(false, 3, 0), (false, 3, 1), (false, 9, 2)]).run Try.prog w = .ok (x.kind == y.kind && (x.n == y.n && ((str x.s).toList == (str y.s).toList && true))) w :=
    eqF_cons _ _ _ _ _ _ (run_part_plain w plain3 rfl) (run_part_plain w plain3 rfl) (run_equalIn_int w d _ _ _ _ _ Try.underlying3)
    (eqF_cons _ _ _ _ _ _ (run_part_plain w plain3 rfl) (run_part_plain w plain3 rfl) (run_equalIn_int w d _ _ _ _ _ Try.underlying3)
      (eqF_cons _ _ _ _ _ _ (run_part_plain w plainS rfl) (run_part_plain w plainS rfl) (run_equalIn_string w d _ _ _ Try.underlying9) (eqF_nil _ _ _)))
  rw [eqS (d + 1) _ _ _ u_val h_val f_val h]
  congr 1
  rw [Bool.eq_iff_iff]
  obtain ⟨a, b, c⟩ := x
  obtain ⟨a', b', c'⟩ := y
  simp
set_option maxRecDepth 100000 in
theorem eq_items {f g : List Val} (hf : f.length = 8) (hg : g.length = 8) (d : Nat) (w : World) : ∀ l : List Nat, (∀ i ∈ l, i < 8) →
    (Op.eqItems (d + 2) 56 (Try.prog.cellsOf 56) (farr f) (farr g) l).run Try.prog w = .ok (l.all fun i => decide (f[i]? = g[i]?)) w
  | [], _ => by simp [Op.eqItems]
  | i :: l, h => by
    have hi := h i (List.mem_cons_self ..)
    have hc : Try.prog.cellsOf 56 = 3 := by kernel_rfl
    have ih := eq_items hf hg d w l (fun j hj => h j (List.mem_cons_of_mem _ hj))
    rw [hc] at ih ⊢
    have p1 := part_agg (P := Try.prog) (w := w) strV (farr f) (i * 3)
    have p2 := part_agg (P := Try.prog) (w := w) strV (farr g) (i * 3)
    rw [farr_extract (by omega)] at p1 p2
    have e := eq_val d (f[i]'(by omega)) (g[i]'(by omega)) w
    simp only [Op.eqItems, Sem.run_bind, p1, p2, Result.andThen_ok, e, Sem.run_ite, ih, Sem.run_pure, List.all_cons]
    rw [List.getElem?_eq_getElem (show i < f.length by omega), List.getElem?_eq_getElem (show i < g.length by omega)]
    by_cases hx : f[i]'(by omega) = g[i]'(by omega) <;> simp [hx]
set_option maxRecDepth 100000 in
theorem eq_farr {f g : List Val} (hf : f.length = 8) (hg : g.length = 8) (d : Nat) (w : World) :
    (Op.equalIn (d + 3) 57 (.agg (farr f)) (.agg (farr g))).run Try.prog w = .ok (decide (f = g)) w := by
  obtain ⟨i, hi⟩ : ∃ i, Try.prog.info? 56 = some i := by
    have := strV.size
    cases h : Try.prog.info? 56 with
    | none => rw [h] at this; cases this
    | some i => exact ⟨i, rfl⟩
  rw [run_equalIn_array w (d + 2) _ _ Try.underlying57 hi, eq_items hf hg d w _ (fun i hi => List.mem_range.1 hi)]
  congr 1
  rw [Bool.eq_iff_iff]
  simp only [List.all_eq_true, List.mem_range, decide_eq_true_eq]
  refine ⟨fun h => List.ext_getElem? fun i => ?_, fun h i _ => by rw [h]⟩
  by_cases hi : i < 8
  · exact h i hi
  · rw [List.getElem?_eq_none (by omega), List.getElem?_eq_none (by omega)]
theorem Card.arr_extract {c : Card} (hf : c.f.length = 8) : c.arr.extract 3 (3 + 24) = farr c.f := by
  have h1 := c.arr_size
  have h2 := farr_size c.f
  apply Array.ext_getElem?
  intro i
  rw [Array.getElem?_extract]
  by_cases hi : i < 24
  · rw [if_pos (by omega), Card.arr_tail]
  · rw [if_neg (by omega), Array.getElem?_eq_none (by omega)]
theorem Patch.arr_extract {c : Patch} (hf : c.f.length = 8) : c.arr.extract 2 (2 + 24) = farr c.f := by
  have h1 := c.arr_size
  have h2 := farr_size c.f
  apply Array.ext_getElem?
  intro i
  rw [Array.getElem?_extract]
  by_cases hi : i < 24
  · rw [if_pos (by omega), Patch.arr_tail]
  · rw [if_neg (by omega), Array.getElem?_eq_none (by omega)]
theorem f_card : (Try.prog.fieldsOf 59).toList.map (fun f => (f.name == "_", f.type, f.offset)) = [(false, 3, 0), (false, 3, 1), (false, 35, 2), (false, 57, 3)] := by kernel_rfl
theorem u_card : Try.prog.underlying 59 = some (.struct (Try.prog.fieldsOf 59)) := by kernel_rfl
theorem h_card : Try.prog.stoodInHeld 59 = false := by kernel_rfl
set_option maxRecDepth 100000 in
theorem eq_card {x y : Card} (hf : x.f.length = 8) (hg : y.f.length = 8) (d : Nat) (w : World) : (Op.equalIn (d + 4) 59 (.agg x.arr) (.agg y.arr)).run Try.prog w = .ok (decide (x = y)) w := by
  obtain ⟨x0, x1, x2⟩ := x.arr_head
  obtain ⟨y0, y1, y2⟩ := y.arr_head
  have px := part_agg (P := Try.prog) (w := w) strF x.arr 3
  have py := part_agg (P := Try.prog) (w := w) strF y.arr 3
  rw [Card.arr_extract (by assumption)] at px py
  have h : (eqF (d + 3) x.arr y.arr [(false, 3, 0), (false, 3, 1), (false, 35, 2), (false, 57, 3)]).run Try.prog w = .ok (x.id == y.id && (x.ver == y.ver && ((x.lab : Int) == (y.lab : Int) && (decide (x.f = y.f) && true)))) w :=
    eqF_cons _ _ _ _ _ _ (run_part_plain w plain3 x0) (run_part_plain w plain3 y0) (run_equalIn_int w _ _ _ _ _ _ Try.underlying3)
    (eqF_cons _ _ _ _ _ _ (run_part_plain w plain3 x1) (run_part_plain w plain3 y1) (run_equalIn_int w _ _ _ _ _ _ Try.underlying3)
    (eqF_cons _ _ _ _ _ _ (run_part_plain w plain32 x2) (run_part_plain w plain32 y2) (run_equalIn_int w _ _ _ _ _ _ Try.underlying35)
      (eqF_cons _ _ _ _ _ _ px py (eq_farr hf hg d w) (eqF_nil _ _ _))))
  rw [eqS (d + 3) _ _ _ u_card h_card f_card h]
  congr 1
  rw [Bool.eq_iff_iff]
  obtain ⟨a, b, c, e⟩ := x
  obtain ⟨a', b', c', e'⟩ := y
  simp
  omega
end Go.Proofs.Ytplipddgeanajaa
