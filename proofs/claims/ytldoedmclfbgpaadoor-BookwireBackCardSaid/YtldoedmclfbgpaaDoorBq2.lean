/-
  Lemmas (walks and plain laws), in one text.
-/
import Derived.Test.YtldoedmclfbgpaaDoorBq1
import Derived.ChangeKeysEq
import Derived.Laws.StructEq
import Derived.Test.YtldoedmclfbgpaaDoorProg
import Derived.Deep.CutBlock
import Derived.Deep.DeepCutAuto
namespace Go.Proofs.YtldoedmclfbgpaaDoor
open Go.RowKit

section
variable {P : Program} {w : World}
theorem Str.agg {ty : TypeId} {n : Nat} (S : Str P ty n) (w : World) : (isAgg ty).run P w = .ok true w := by
  obtain ⟨d, h1, h2⟩ := S.desc
  unfold isAgg
  rw [Sem.run_bind, run_underlying h1 w]
  cases d <;> simp_all
theorem Str.sizeOf {ty : TypeId} {n : Nat} (S : Str P ty n) (w : World) : (Go.sizeOf ty).run P w = .ok n w := by
  have h := S.size
  cases hq : P.info? ty with
  | none => rw [hq] at h; cases h
  | some i =>
    rw [hq] at h
    simp at h
    simp [Go.sizeOf, typeInfo, hq, h]
theorem run_loadVar_at (g off : Nat) (cs : Array Value) (ty : TypeId) (hcell : ∀ (j : Nat) u, cs[j]? = some u → w.cell? ⟨g, off + j, none⟩ = some u) {n : Nat} (S : Str P ty n) (hn : cs.size = n) :
    (loadVar ty ⟨g, off, none⟩).run P w = .ok (.agg cs) w := by
  have hl : (loadCells ⟨g, off, none⟩ cs.toList.length).run P w = .ok cs.toList.toArray w :=
    run_loadCells_list (P := P) w ⟨g, off, none⟩ cs.toList (fun j v hv => by
      rw [add_lit']
      exact hcell j v (by simpa using hv))
  simp only [Array.length_toList, Array.toArray_toList, hn] at hl
  simp only [loadVar, Sem.run_bind, S.agg, S.sizeOf, Result.andThen_ok, if_true, hl, Sem.run_pure]
theorem wpList_loadAt {ops : Array Oper} {rest : List Oper} {o : Oper} {a : Act} {Q : Exit → Act → World → Prop} (hgd : o.guard = none) (ty : TypeId) (x : Operand) (ho : o.op = .load ty x)
    (g off : Nat) (hx : a.eval x = .pointer (some ⟨g, off, none⟩)) (cs : Array Value) (hcell : ∀ (j : Nat) u, cs[j]? = some u → w.cell? ⟨g, off + j, none⟩ = some u) {n : Nat} (S : Str P ty n) (hn : cs.size = n)
    (h : wpList P ops Q rest (a.put o.dst (.agg cs)) w) : wpList P ops Q (o :: rest) a w := by
  refine wpList_plain hgd fun K hK => ?_
  unfold Oper.wp execOp
  simp only [ho, hx, Instr.loadAt, Instr.sureAddr, Sem.run_bind, Sem.run_pure, Result.andThen_ok, run_loadVar_at g off cs ty hcell S hn]
  exact hK _ _ h

/-- A guarded operation that is wanted. -/
theorem wpList_g {ops : Array Oper} {rest : List Oper} {o : Oper} {a : Act} {Q : Exit → Act → World → Prop} (hw : Region.wanted o (yielded ops a.tmps) = true)
    (h : ∀ K : Act → World → Prop, (∀ a w, wpList P ops Q rest a w → K a w) → o.wp P a w K Q) : wpList P ops Q (o :: rest) a w := by
  rw [wpList, if_pos hw]
  exact .inl (h _ fun _ _ h => h)
theorem wlG {ops : Array Oper} {rest : List Oper} {o : Oper} {a : Act} {Q : Exit → Act → World → Prop} (hw : Region.wanted o (yielded ops a.tmps) = true) (ty : TypeId) (x : Operand) (ho : o.op = .load ty x)
    (g off : Nat) (hx : a.eval x = .pointer (some ⟨g, off, none⟩)) (cs : Array Value) (hcell : ∀ (j : Nat) u, cs[j]? = some u → w.cell? ⟨g, off + j, none⟩ = some u) {n : Nat} (S : Str P ty n) (hn : cs.size = n)
    (h : wpList P ops Q rest (a.put o.dst (.agg cs)) w) : wpList P ops Q (o :: rest) a w := by
  refine wpList_g hw fun K hK => ?_
  unfold Oper.wp execOp
  simp only [ho, hx, Instr.loadAt, Instr.sureAddr, Sem.run_bind, Sem.run_pure, Result.andThen_ok, run_loadVar_at g off cs ty hcell S hn]
  exact hK _ _ h
theorem slG {ops : Array Oper} {rest : List Oper} {o : Oper} {a : Act} {Q : Exit → Act → World → Prop} (ty : TypeId) (x : Operand) (_ : o.op = .load ty x) (h : Stop (wpList P ops Q (o :: rest) a w)) : wpList P ops Q (o :: rest) a w := h
theorem Blk.all {g : Nat} {cs : Array Value} (h : Blk w g cs) (j : Nat) (u : Value) (hu : cs[j]? = some u) : w.cell? ⟨g, 0 + j, none⟩ = some u := by rw [Nat.zero_add]; exact h.cell hu
def putAt (cs : Array Value) (j : Nat) : List Value → Array Value
  | [] => cs
  | v :: r => putAt (cs.setIfInBounds j v) (j + 1) r
theorem putAt_size : ∀ (vs : List Value) (cs : Array Value) (j : Nat), (putAt cs j vs).size = cs.size
  | [], _, _ => rfl
  | v :: r, cs, j => by rw [putAt, putAt_size r]; simp
theorem putAt_far : ∀ (vs : List Value) (cs : Array Value) (j k : Nat), k < j ∨ j + vs.length ≤ k → (putAt cs j vs)[k]? = cs[k]?
  | [], _, _, _, _ => rfl
  | v :: r, cs, j, k, h => by
    simp only [List.length_cons] at h
    rw [putAt, putAt_far r _ _ _ (by omega), Array.getElem?_setIfInBounds_ne (by omega)]
theorem putAt_in : ∀ (vs : List Value) (cs : Array Value) (j i : Nat), j + vs.length ≤ cs.size → i < vs.length → (putAt cs j vs)[j + i]? = vs[i]?
  | [], _, _, _, _, h => by simp at h
  | v :: r, cs, j, 0, hs, _ => by
    simp only [List.length_cons] at hs
    rw [putAt, putAt_far r _ _ _ (by omega), Nat.add_zero, Array.getElem?_setIfInBounds_self_of_lt (by omega)]; rfl
  | v :: r, cs, j, i + 1, hs, h => by
    simp only [List.length_cons] at hs h
    have := putAt_in r (cs.setIfInBounds j v) (j + 1) i (by simp; omega) (by omega)
    rw [putAt, show j + (i + 1) = j + 1 + i by omega, this]; rfl
theorem run_storeCells_at (g off : Nat) : ∀ (vs : List Value) (i : Nat) (cs : Array Value) (w : World), Blk w g cs → off + i + vs.length ≤ cs.size → (∀ v ∈ vs, v.oneCell' = true) →
    ∃ w', (storeCells ⟨g, off, none⟩ vs i).run P w = .ok () w' ∧ Blk w' g (putAt cs (off + i) vs) ∧ Kept (some g) w.heap.size w w'
  | [], i, cs, w, hb, _, _ => ⟨w, rfl, hb, Kept.refl _ _ _⟩
  | v :: r, i, cs, w, hb, hl, h1 => by
    simp only [List.length_cons] at hl
    have hi : off + i < cs.size := by omega
    have hcell : w.cell? ⟨g, off + i, none⟩ = some cs[off + i] := hb.cell (by simp [hi])
    have hfro := hb.frozen (off + i)
    have hst : (store ((⟨g, off, none⟩ : Addr).add i) v).run P w = .ok () (w.setCell ⟨g, off + i, none⟩ v) := by
      rw [add_lit', run_store P w _ v _ (h1 v (by simp)), hcell]
      simp [hfro]
    obtain ⟨w', hr, hb', hk⟩ := run_storeCells_at g off r (i + 1) _ _ (hb.store (off + i) v) (by simp; omega) (fun x hx => h1 x (by simp [hx]))
    have k1 : Kept (some g) w.heap.size w (w.setCell ⟨g, off + i, none⟩ v) := Kept.setCell (q := ⟨g, off + i, none⟩) (Kept.refl (some g) _ w) (.inr rfl) v
    refine ⟨w', ?_, hb', k1.trans ?_⟩
    · simp only [storeCells, Sem.run_bind, hst, Result.andThen_ok, hr]
    · simpa [World.setCell] using hk
theorem wpList_storeAt {ops : Array Oper} {rest : List Oper} {o : Oper} {a : Act} {Q : Exit → Act → World → Prop} (hgd : o.guard = none) (ty : TypeId) (x y : Operand) (ho : o.op = .store ty x y)
    (g off : Nat) (cells : Array Value) (hx : a.eval x = .pointer (some ⟨g, off, none⟩)) (hy : a.eval y = .agg cells) (old : Array Value) (hb : Blk w g old) {n : Nat} (S : Str P ty n) (hn : cells.size = n)
    (hold : off + cells.size ≤ old.size) (h1 : ∀ v ∈ cells.toList, v.oneCell' = true)
    (h : ∀ w', Blk w' g (putAt old off cells.toList) → Kept (some g) w.heap.size w w' → wpList P ops Q rest (a.put o.dst undef) w') : wpList P ops Q (o :: rest) a w := by
  refine wpList_plain hgd fun K hK => ?_
  obtain ⟨w', hr, hb', hk⟩ := run_storeCells_at (P := P) g off cells.toList 0 old w hb (by simpa using hold) h1
  have hs : (storeVar ty ⟨g, off, none⟩ (.agg cells)).run P w = .ok () w' := by
    simp only [storeVar, Sem.run_bind, S.sizeOf, Result.andThen_ok, Value.cells, hn, ne_eq, not_true_eq_false, if_false, hr]
  unfold Oper.wp execOp
  simp only [ho, hx, hy, Instr.storeAt, Instr.sureAddr, Sem.run_bind, Sem.run_pure, Result.andThen_ok, hs]
  exact hK _ _ (h w' hb' hk)
theorem run_index_agg {T elem : TypeId} {len n : Nat} (hT : P.underlying T = some (.array len elem)) (S : Str P elem n) (cs : Array Value) (k : Nat) (hk : k < len) (w : World) :
    (Instr.index T (.agg cs) (.int .i64 k)).run P w = .ok (.agg (cs.extract (k * n) (k * n + n))) w := by
  simp [Instr.index, asIntOf, run_underlying hT, S.sizeOf, part, S.agg, Sem.run_bind, hk]
end
theorem farr_extract {f : List Val} {k : Nat} (h : k < f.length) : (farr f).extract (k * 3) (k * 3 + 3) = #[.int .i64 f[k].kind, .int .i64 f[k].n, .string (str f[k].s)] := by
  obtain ⟨h0, h1, h2⟩ := farr_get h
  have hs := farr_size f
  apply Array.ext_getElem?
  intro i
  rw [Array.getElem?_extract]
  rcases i with _ | _ | _ | i
  · simp [h0]; omega
  · simp [h1]; omega
  · simp [h2]; omega
  · simp; omega
theorem strV : Str Tryd.prog 53 3 := ⟨⟨_, Tryd.underlying53, rfl⟩, by kernel_rfl⟩
theorem strF : Str Tryd.prog 54 24 := ⟨⟨_, Tryd.underlying54, rfl⟩, by kernel_rfl⟩
theorem strC : Str Tryd.prog 56 27 := ⟨⟨_, Tryd.underlying56, rfl⟩, by kernel_rfl⟩
theorem index_farr {f : List Val} (hf : f.length = 8) (k : Nat) (hk : k < 8) (w : World) :
    (Instr.index 54 (.agg (farr f)) (.int .i64 k)).run Tryd.prog w = .ok (.agg #[.int .i64 (f[k]'(by omega)).kind, .int .i64 (f[k]'(by omega)).n, .string (str (f[k]'(by omega)).s)]) w := by
  rw [run_index_agg Tryd.underlying54 strV (farr f) k hk w, farr_extract (by omega)]

/-! Equality. -/
def eqF (d : Nat) (xs ys : Array Value) : List (Bool × TypeId × Nat) → Sem Bool
  | [] => pure true
  | (b, t, off) :: r => if b = false then do
      let a ← part t xs off
      let c ← part t ys off
      let q ← Op.equalIn d t a c
      if (!q) = true then pure false else eqF d xs ys r
    else eqF d xs ys r
theorem eqFields_eqF (d : Nat) (xs ys : Array Value) : ∀ fs : List Field, Op.eqFields d xs ys fs = eqF d xs ys (fs.map fun f => (f.name == "_", f.type, f.offset))
  | [] => rfl
  | f :: fs => by
    rw [List.map_cons, eqF, Op.eqFields, eqFields_eqF d xs ys fs]
    by_cases h : f.name = "_"
    · simp [h]
    · have h' : (f.name == "_") = false := by simpa using h
      simp [h, h']
section
variable {P : Program} {w : World}
theorem part_agg {ty : TypeId} {n : Nat} (S : Str P ty n) (xs : Array Value) (off : Nat) : (part ty xs off).run P w = .ok (.agg (xs.extract off (off + n))) w := by
  simp [part, S.agg, S.sizeOf, Sem.run_bind]
theorem eqF_nil (d : Nat) (xs ys : Array Value) : (eqF d xs ys []).run P w = .ok true w := by simp [eqF]
theorem eqF_cons (d : Nat) (xs ys : Array Value) (t : TypeId) (off : Nat) (r : List (Bool × TypeId × Nat)) {a b : Value} {p q : Bool} (ha : (part t xs off).run P w = .ok a w) (hb : (part t ys off).run P w = .ok b w)
    (he : (Op.equalIn d t a b).run P w = .ok p w) (hr : (eqF d xs ys r).run P w = .ok q w) : (eqF d xs ys ((false, t, off) :: r)).run P w = .ok (p && q) w := by
  simp only [eqF, if_true, Sem.run_bind, ha, hb, he, Result.andThen_ok, Sem.run_ite, hr, Sem.run_pure]
  cases p <;> simp
theorem eqS (d : Nat) {t : TypeId} (xs ys : Array Value) (l : List (Bool × TypeId × Nat)) (ht : P.underlying t = some (.struct (P.fieldsOf t))) (hp : P.stoodInHeld t = false) (hl : (P.fieldsOf t).toList.map (fun f => (f.name == "_", f.type, f.offset)) = l)
    {q : Bool} (h : (eqF d xs ys l).run P w = .ok q w) : (Op.equalIn (d + 1) t (.agg xs) (.agg ys)).run P w = .ok q w := by
  rw [run_equalIn_struct w d t xs ys ht hp, eqFields_eqF, hl, h]
end
theorem plain3 : Tryd.prog.plainKey 3 = true := by kernel_rfl
theorem plainS : Tryd.prog.plainKey 9 = true := by kernel_rfl
theorem plain32 : Tryd.prog.plainKey 51 = true := by kernel_rfl
abbrev Val.c3 (x : Val) : Array Value := #[.int .i64 x.kind, .int .i64 x.n, .string (str x.s)]
theorem f_val : (Tryd.prog.fieldsOf 53).toList.map (fun f => (f.name == "_", f.type, f.offset)) = [(false, 3, 0), (false, 3, 1), (false, 9, 2)] := by kernel_rfl
theorem u_val : Tryd.prog.underlying 53 = some (.struct (Tryd.prog.fieldsOf 53)) := by kernel_rfl
theorem h_val : Tryd.prog.stoodInHeld 53 = false := by kernel_rfl
set_option maxRecDepth 100000 in
theorem eq_val (d : Nat) (x y : Val) (w : World) : (Op.equalIn (d + 2) 53 (.agg x.c3) (.agg y.c3)).run Tryd.prog w = .ok (decide (x = y)) w := by
  have h : (eqF (d + 1) x.c3 y.c3 [(false, 3, 0), (false, 3, 1), (false, 9, 2)]).run Tryd.prog w = .ok (x.kind == y.kind && (x.n == y.n && ((str x.s).toList == (str y.s).toList && true))) w :=
    eqF_cons _ _ _ _ _ _ (run_part_plain w plain3 rfl) (run_part_plain w plain3 rfl) (run_equalIn_int w d _ _ _ _ _ Tryd.underlying3)
    (eqF_cons _ _ _ _ _ _ (run_part_plain w plain3 rfl) (run_part_plain w plain3 rfl) (run_equalIn_int w d _ _ _ _ _ Tryd.underlying3)
      (eqF_cons _ _ _ _ _ _ (run_part_plain w plainS rfl) (run_part_plain w plainS rfl) (run_equalIn_string w d _ _ _ Tryd.underlying9) (eqF_nil _ _ _)))
  rw [eqS (d + 1) _ _ _ u_val h_val f_val h]
  congr 1
  rw [Bool.eq_iff_iff]
  obtain ⟨a, b, c⟩ := x
  obtain ⟨a', b', c'⟩ := y
  simp
set_option maxRecDepth 100000 in
theorem eq_items {f g : List Val} (hf : f.length = 8) (hg : g.length = 8) (d : Nat) (w : World) : ∀ l : List Nat, (∀ i ∈ l, i < 8) →
    (Op.eqItems (d + 2) 53 (Tryd.prog.cellsOf 53) (farr f) (farr g) l).run Tryd.prog w = .ok (l.all fun i => decide (f[i]? = g[i]?)) w
  | [], _ => by simp [Op.eqItems]
  | i :: l, h => by
    have hi := h i (List.mem_cons_self ..)
    have hc : Tryd.prog.cellsOf 53 = 3 := by kernel_rfl
    have ih := eq_items hf hg d w l (fun j hj => h j (List.mem_cons_of_mem _ hj))
    rw [hc] at ih ⊢
    have p1 := part_agg (P := Tryd.prog) (w := w) strV (farr f) (i * 3)
    have p2 := part_agg (P := Tryd.prog) (w := w) strV (farr g) (i * 3)
    rw [farr_extract (by omega)] at p1 p2
    have e := eq_val d (f[i]'(by omega)) (g[i]'(by omega)) w
    simp only [Op.eqItems, Sem.run_bind, p1, p2, Result.andThen_ok, e, Sem.run_ite, ih, Sem.run_pure, List.all_cons]
    rw [List.getElem?_eq_getElem (show i < f.length by omega), List.getElem?_eq_getElem (show i < g.length by omega)]
    by_cases hx : f[i]'(by omega) = g[i]'(by omega) <;> simp [hx]
set_option maxRecDepth 100000 in
theorem eq_farr {f g : List Val} (hf : f.length = 8) (hg : g.length = 8) (d : Nat) (w : World) :
    (Op.equalIn (d + 3) 54 (.agg (farr f)) (.agg (farr g))).run Tryd.prog w = .ok (decide (f = g)) w := by
  obtain ⟨i, hi⟩ : ∃ i, Tryd.prog.info? 53 = some i := by
    have := strV.size
    cases h : Tryd.prog.info? 53 with
    | none => rw [h] at this; cases this
    | some i => exact ⟨i, rfl⟩
  rw [run_equalIn_array w (d + 2) _ _ Tryd.underlying54 hi, eq_items hf hg d w _ (fun i hi => List.mem_range.1 hi)]
  congr 1
  rw [Bool.eq_iff_iff]
  simp only [List.all_eq_true, List.mem_range, decide_eq_true_eq]
  refine ⟨fun h => List.ext_getElem? fun i => ?_, fun h i _ => by rw [h]⟩
  by_cases hi : i < 8
  · exact h i hi
  · rw [List.getElem?_eq_none (by omega), List.getElem?_eq_none (by omega)]
theorem Card.arr_extract {c : Card} (hf : c.f.length = 8) : c.arr.extract 3 (3 + 24) = farr c.f := by
  have h1 := c.arr_size
  have h2 := farr_size c.f
  apply Array.ext_getElem?
  intro i
  rw [Array.getElem?_extract]
  by_cases hi : i < 24
  · rw [if_pos (by omega), Card.arr_tail]
  · rw [if_neg (by omega), Array.getElem?_eq_none (by omega)]
theorem Patch.arr_extract {c : Patch} (hf : c.f.length = 8) : c.arr.extract 2 (2 + 24) = farr c.f := by
  have h1 := c.arr_size
  have h2 := farr_size c.f
  apply Array.ext_getElem?
  intro i
  rw [Array.getElem?_extract]
  by_cases hi : i < 24
  · rw [if_pos (by omega), Patch.arr_tail]
  · rw [if_neg (by omega), Array.getElem?_eq_none (by omega)]
theorem f_card : (Tryd.prog.fieldsOf 56).toList.map (fun f => (f.name == "_", f.type, f.offset)) = [(false, 3, 0), (false, 3, 1), (false, 51, 2), (false, 54, 3)] := by kernel_rfl
theorem u_card : Tryd.prog.underlying 56 = some (.struct (Tryd.prog.fieldsOf 56)) := by kernel_rfl
theorem h_card : Tryd.prog.stoodInHeld 56 = false := by kernel_rfl
set_option maxRecDepth 100000 in
theorem eq_card {x y : Card} (hf : x.f.length = 8) (hg : y.f.length = 8) (d : Nat) (w : World) : (Op.equalIn (d + 4) 56 (.agg x.arr) (.agg y.arr)).run Tryd.prog w = .ok (decide (x = y)) w := by
  obtain ⟨x0, x1, x2⟩ := x.arr_head
  obtain ⟨y0, y1, y2⟩ := y.arr_head
  have px := part_agg (P := Tryd.prog) (w := w) strF x.arr 3
  have py := part_agg (P := Tryd.prog) (w := w) strF y.arr 3
  rw [Card.arr_extract (by assumption)] at px py
  have h : (eqF (d + 3) x.arr y.arr [(false, 3, 0), (false, 3, 1), (false, 51, 2), (false, 54, 3)]).run Tryd.prog w = .ok (x.id == y.id && (x.ver == y.ver && ((x.lab : Int) == (y.lab : Int) && (decide (x.f = y.f) && true)))) w :=
    eqF_cons _ _ _ _ _ _ (run_part_plain w plain3 x0) (run_part_plain w plain3 y0) (run_equalIn_int w _ _ _ _ _ _ Tryd.underlying3)
    (eqF_cons _ _ _ _ _ _ (run_part_plain w plain3 x1) (run_part_plain w plain3 y1) (run_equalIn_int w _ _ _ _ _ _ Tryd.underlying3)
    (eqF_cons _ _ _ _ _ _ (run_part_plain w plain32 x2) (run_part_plain w plain32 y2) (run_equalIn_int w _ _ _ _ _ _ Tryd.underlying51)
      (eqF_cons _ _ _ _ _ _ px py (eq_farr hf hg d w) (eqF_nil _ _ _))))
  rw [eqS (d + 3) _ _ _ u_card h_card f_card h]
  congr 1
  rw [Bool.eq_iff_iff]
  obtain ⟨a, b, c, e⟩ := x
  obtain ⟨a', b', c', e'⟩ := y
  simp
  omega
end Go.Proofs.YtldoedmclfbgpaaDoor
namespace Go.Proofs.YtldoedmclfbgpaaDoor
open Go.RowKit

def longF (f : List Val) : Bool := f.any fun x => decide (200 < x.s.length)
set_option maxHeartbeats 400000 in
theorem c_Large (f : List Val) (w : World) (hf : f.length = 8) : Calls Tryd.prog 30 #[.agg (farr f)] w (RetV w (.bool (longF f))) := by
  go_enter Tryd.func30, Tryd.ntmps30
  go_wp2
  go_loopw [3] (fun i wr => ∃ k : Nat, k ≤ 8 ∧ i = .int .i64 k ∧ (f.take k).any (fun x => decide (200 < x.s.length)) = false ∧ wr = w.alloc (.cells (farr f) 54)) (fun i _ => 8 - (intOf i).toNat)
  case atStart => exact ⟨0, by omega, rfl, rfl, rfl⟩
  case round =>
    obtain ⟨k, hk, rfl, hno, rfl⟩ := hrel
    have NO := Lib.hid hno
    clear hno
    by_cases hlt : k < 8
    · obtain ⟨c0, c1, c2⟩ := farr_get (f := f) (k := k) (by omega)
      have T := Lib.hid (show f.take (k + 1) = f.take k ++ [f[k]'(by omega)] from List.take_succ_eq_append_getElem (by omega))
      have M := Lib.hid (List.getElem_mem (l := f) (n := k) (by omega))
      by_cases hb : 200 < (f[k]'(by omega)).s.length
      · go_wp2
        go_ret
        refine RetV.bool ?_ (by repeat (first | exact Below.refl _ _ | refine Below.drew ?_ | refine Below.alloc ?_ (by first | omega | (simp; done) | (simp; omega)) _ | refine Below.setCell ?_ (by first | omega | (simp; done) | (simp; omega)) _ | refine Below.trans ?_ (Below.mono (by assumption) (by first | omega | (simp; done) | (simp; omega)))))
        symm
        exact List.any_eq_true.2 ⟨_, M.out, by simpa using hb⟩
      · go_wp2
        go_roundw
        case rel => exact ⟨k + 1, by omega, by go_num, by rw [T.out, List.any_append, NO.out]; simpa using hb, by first | rfl | trivial⟩
        case measure => simp [intOf]; omega
    · have : k = 8 := by omega
      subst this
      go_wp2
      go_ret
      refine RetV.bool ?_ (by repeat (first | exact Below.refl _ _ | refine Below.drew ?_ | refine Below.alloc ?_ (by first | omega | (simp; done) | (simp; omega)) _ | refine Below.setCell ?_ (by first | omega | (simp; done) | (simp; omega)) _ | refine Below.trans ?_ (Below.mono (by assumption) (by first | omega | (simp; done) | (simp; omega)))))
      have := NO.out
      rw [List.take_of_length_le (by omega)] at this
      exact this.symm
def vals (f : List Val) : Bool := f.all Val.ok
def Card.ok (c : Card) : Bool := decide (1 ≤ c.id) && decide (c.id < 1073741824) && decide (1 ≤ c.ver) && decide (c.ver ≤ 1099511627776) && decide (c.lab < 65536) && vals c.f
theorem Card.ok_bad {c : Card} (h : ¬ (1 ≤ c.id ∧ c.id < 1073741824 ∧ 1 ≤ c.ver ∧ c.ver ≤ 1099511627776 ∧ c.lab < 65536)) : c.ok = false := by
  unfold Card.ok
  cases hv : vals c.f
  · simp
  · simp; omega
theorem Card.ok_head {c : Card} (h : 1 ≤ c.id ∧ c.id < 1073741824 ∧ 1 ≤ c.ver ∧ c.ver ≤ 1099511627776 ∧ c.lab < 65536) : c.ok = vals c.f := by
  unfold Card.ok
  simp [h]
set_option maxHeartbeats 1000000 in
theorem ref06_Check_bad (c : Card) (w : World) (h : ¬ (1 ≤ c.id ∧ c.id < 1073741824 ∧ 1 ≤ c.ver ∧ c.ver ≤ 1099511627776 ∧ c.lab < 65536)) : Calls Tryd.prog 51 #[.agg c.arr] w (RetV w (.bool c.ok)) := by
  obtain ⟨h0, h1, h2⟩ := c.arr_head
  have E := Lib.hid (Card.ok_bad h)
  have H := Lib.hid h
  clear h
  go_enter Tryd.func51, Tryd.ntmps51
  go_wp2
  all_goals first
    | (go_ret; exact RetV.bool E.out.symm (by repeat (first | exact Below.refl _ _ | refine Below.drew ?_ | refine Below.alloc ?_ (by first | omega | (simp; done) | (simp; omega)) _ | refine Below.setCell ?_ (by first | omega | (simp; done) | (simp; omega)) _ | refine Below.trans ?_ (Below.mono (by assumption) (by first | omega | (simp; done) | (simp; omega))))))
    | exact absurd ⟨by omega, by omega, by omega, by omega, by omega⟩ H.out
set_option maxHeartbeats 1000000 in
theorem ref06_Check_loop (c : Card) (w : World) (hf : c.f.length = 8) (hs : ∀ x ∈ c.f, x.s.length ≤ 4294967000) (h : 1 ≤ c.id ∧ c.id < 1073741824 ∧ 1 ≤ c.ver ∧ c.ver ≤ 1099511627776 ∧ c.lab < 65536) : Calls Tryd.prog 51 #[.agg c.arr] w (RetV w (.bool c.ok)) := by
  obtain ⟨h0, h1, h2⟩ := c.arr_head
  have E := Lib.hid (Card.ok_head h)
  obtain ⟨a1, a2, a3, a4, a5⟩ := h
  have b1 : decide (c.id < 1) = false := by simp; omega
  have b2 : decide (1073741824 ≤ c.id) = false := by simp; omega
  have b3 : decide (c.ver < 1) = false := by simp; omega
  have b4 : decide (1099511627776 < c.ver) = false := by simp; omega
  have b5 : decide (65536 ≤ (c.lab : Int)) = false := by simp; omega
  go_enter Tryd.func51, Tryd.ntmps51
  go_wp2
  go_loopw [3] (fun i wr => ∃ k : Nat, k ≤ 8 ∧ i = .int .i64 k ∧ Hid ((c.f.take k).all Val.ok = true) ∧ Below w.heap.size w wr ∧ Blk wr w.heap.size c.arr) (fun i _ => 8 - (intOf i).toNat)
  case atStart => exact ⟨0, by omega, rfl, rfl, (by repeat (first | exact Below.refl _ _ | refine Below.drew ?_ | refine Below.alloc ?_ (by first | omega | (simp; done) | (simp; omega)) _ | refine Below.setCell ?_ (by first | omega | (simp; done) | (simp; omega)) _ | refine Below.trans ?_ (Below.mono (by assumption) (by first | omega | (simp; done) | (simp; omega))))), Blk.new _ _ _⟩
  case round =>
    obtain ⟨k, hk, rfl, hno, hb, hB⟩ := hrel
    by_cases hlt : k < 8
    · obtain ⟨c0, c1, c2⟩ := Card.arr_val (c := c) (k := k) (by omega)
      have d0 := hB.cell c0
      have d1 := hB.cell c1
      have d2 := hB.cell c2
      have T := Lib.hid (show c.f.take (k + 1) = c.f.take k ++ [c.f[k]'(by omega)] from List.take_succ_eq_append_getElem (by omega))
      have M := Lib.hid (List.getElem_mem (l := c.f) (n := k) (by omega))
      have hsl := hs _ M.out
      cases hv : (c.f[k]'(by omega)).ok
      · go_wp2_with (go_at_call 69; refine (c_ref04_Check (c.f[k]'(by omega)) _ (by omega)).mono ?_; rintro e w1 ⟨rfl, hb1⟩)
        go_ret
        refine RetV.bool ?_ (hb.trans (hb1.mono hb.size))
        rw [E.out]
        symm
        exact List.all_eq_false.2 ⟨_, M.out, by simp [hv]⟩
      · go_wp2_with (go_at_call 69; refine (c_ref04_Check (c.f[k]'(by omega)) _ (by omega)).mono ?_; rintro e w1 ⟨rfl, hb1⟩)
        go_roundw
        case rel => exact ⟨k + 1, by omega, by go_num, Lib.hid (by rw [T.out, List.all_append, hno.out]; simpa using hv), hb.trans (hb1.mono hb.size), hB.below hb1 hB.lt⟩
        case measure => simp [intOf]; omega
    · have : k = 8 := by omega
      subst this
      go_wp2
      go_ret
      refine RetV.bool ?_ hb
      have := hno.out
      rw [List.take_of_length_le (by omega)] at this
      rw [E.out]; exact this.symm
theorem c_ref06_Check (c : Card) (w : World) (hf : c.f.length = 8) (hs : ∀ x ∈ c.f, x.s.length ≤ 4294967000) : Calls Tryd.prog 51 #[.agg c.arr] w (RetV w (.bool c.ok)) := by
  by_cases h : 1 ≤ c.id ∧ c.id < 1073741824 ∧ 1 ≤ c.ver ∧ c.ver ≤ 1099511627776 ∧ c.lab < 65536
  · exact ref06_Check_loop c w hf hs h
  · exact ref06_Check_bad c w h

/-! The program's. -/
set_option maxHeartbeats 400000 in
theorem c_card_Check1 (x : Val) (w : World) (hs : x.s.length ≤ 4294967000) : Calls Tryd.prog 71 #[x.val] w (RetV w (.bool !x.ok)) := by
  unfold Val.val
  go_enter Tryd.func71, Tryd.ntmps71
  go_wp2_with (go_at_call 72; refine (c_value_Check x _ (by omega)).mono ?_; rintro e w1 ⟨rfl, hb1⟩)
  go_ret
  exact RetV.of rfl (by repeat (first | exact Below.refl _ _ | refine Below.drew ?_ | refine Below.alloc ?_ (by first | omega | (simp; done) | (simp; omega)) _ | refine Below.setCell ?_ (by first | omega | (simp; done) | (simp; omega)) _ | refine Below.trans ?_ (Below.mono (by assumption) (by first | omega | (simp; done) | (simp; omega)))))
def RetIdx (l : List Val) (w : World) (e : Ending) (w' : World) : Prop := ∃ z : Int, e = .returned (.int .i64 z) ∧ decide (0 ≤ z) = !vals l ∧ Below w.heap.size w w'
set_option maxHeartbeats 1000000 in
theorem c_IndexFunc (l : List Val) (A : Option Addr) (c : Nat) (w : World) (h : In 3 Val.cells w A c l) (hl : l.length ≤ 100) (hs : ∀ x ∈ l, x.s.length ≤ 4294967000) :
    Calls Tryd.prog 82 #[.slice A l.length c, .func (.func 71) #[] #[]] w (RetIdx l w) := by
  go_enter Tryd.func82, Tryd.ntmps82
  go_wp2
  go_loopw [5, 8] (fun _ i wr => ∃ k : Nat, k ≤ l.length ∧ i = .int .i64 k ∧ Hid ((l.take k).all Val.ok = true) ∧ Below w.heap.size w wr) (fun _ i _ => l.length - (intOf i).toNat)
  case atStart => exact ⟨0, by omega, rfl, rfl, (by repeat (first | exact Below.refl _ _ | refine Below.drew ?_ | refine Below.alloc ?_ (by first | omega | (simp; done) | (simp; omega)) _ | refine Below.setCell ?_ (by first | omega | (simp; done) | (simp; omega)) _ | refine Below.trans ?_ (Below.mono (by assumption) (by first | omega | (simp; done) | (simp; omega)))))⟩
  case round =>
    obtain ⟨k, hk, rfl, hno, hb⟩ := hrel
    by_cases hlt : k < l.length
    · obtain ⟨b, off, rfl, hbb, hrow⟩ := h.at hlt
      have d0 := hrow.belowB hb hbb k hlt 0 _ rfl
      have d1 := hrow.belowB hb hbb k hlt 1 _ rfl
      have d2 := hrow.belowB hb hbb k hlt 2 _ rfl
      simp only [Nat.add_zero] at d0
      clear hrow h
      have T := Lib.hid (show l.take (k + 1) = l.take k ++ [l[k]] from List.take_succ_eq_append_getElem hlt)
      have M := Lib.hid (List.getElem_mem hlt)
      have hsl := hs _ M.out
      cases hv : l[k].ok
      · go_wp2_with (go_at_call 71; refine (c_card_Check1 l[k] _ hsl).mono ?_; rintro e w1 ⟨rfl, hb1⟩)
        go_ret
        refine ⟨k, rfl, ?_, hb.trans (hb1.mono hb.size)⟩
        have : vals l = false := List.all_eq_false.2 ⟨_, M.out, by simp [hv]⟩
        rw [this]; simp
      · go_wp2_with (go_at_call 71; refine (c_card_Check1 l[k] _ hsl).mono ?_; rintro e w1 ⟨rfl, hb1⟩)
        go_roundw
        case rel => exact ⟨k + 1, by omega, by go_num, Lib.hid (by rw [T.out, List.all_append, hno.out]; simpa using hv), hb.trans (hb1.mono hb.size)⟩
        case measure => simp [intOf]; omega
    · have : k = l.length := by omega
      subst this
      go_wp2
      go_ret
      refine ⟨-1, rfl, ?_, hb⟩
      have := hno.out
      rw [List.take_of_length_le (by omega)] at this
      unfold vals
      rw [this]; rfl
set_option maxHeartbeats 400000 in
theorem c_ContainsFunc (l : List Val) (A : Option Addr) (c : Nat) (w : World) (h : In 3 Val.cells w A c l) (hl : l.length ≤ 100) (hs : ∀ x ∈ l, x.s.length ≤ 4294967000) :
    Calls Tryd.prog 70 #[.slice A l.length c, .func (.func 71) #[] #[]] w (RetV w (.bool !vals l)) := by
  go_enter Tryd.func70, Tryd.ntmps70
  go_wp2_with (go_at_call 82; refine (c_IndexFunc l A c _ h hl hs).mono ?_; rintro e w1 ⟨z, rfl, hz, hb1⟩; have HZ := Lib.hid hz; clear hz)
  go_ret
  exact RetV.bool HZ.out hb1
theorem card_Check_bad (c : Card) (w : World) (h : ¬ (1 ≤ c.id ∧ c.id < 1073741824 ∧ 1 ≤ c.ver ∧ c.ver ≤ 1099511627776 ∧ c.lab < 65536)) : Calls Tryd.prog 55 #[.agg c.arr] w (RetV w (.bool c.ok)) := by
  obtain ⟨h0, h1, h2⟩ := c.arr_head
  have E := Lib.hid (Card.ok_bad h)
  have H := Lib.hid h
  clear h
  go_enter Tryd.func55, Tryd.ntmps55
  go_wp2
  all_goals first
    | (go_ret; exact RetV.bool E.out.symm (by repeat (first | exact Below.refl _ _ | refine Below.drew ?_ | refine Below.alloc ?_ (by first | omega | (simp; done) | (simp; omega)) _ | refine Below.setCell ?_ (by first | omega | (simp; done) | (simp; omega)) _ | refine Below.trans ?_ (Below.mono (by assumption) (by first | omega | (simp; done) | (simp; omega))))))
    | (have hx : (((1 ≤ c.id ∧ c.id < 1073741824) ∧ 1 ≤ c.ver) ∧ c.ver ≤ 1099511627776) ∧ ((c.lab : Int) / 65536 != 0) = false := by assumption
       have hx2 := hx.2
       simp at hx2
       exact absurd ⟨by omega, by omega, by omega, by omega, by omega⟩ H.out)
theorem Row.of_card {c : Card} {w : World} {g : Nat} (h : Blk w g c.arr) : Row 3 Val.cells w g 3 c.f := fun i hi j u hu => by
  have hj : j < 3 := (List.getElem?_eq_some_iff.1 hu).1
  obtain ⟨h0, h1, h2⟩ := Card.arr_val (c := c) hi
  rcases j with _ | _ | _ | j
  · simp [Val.cells] at hu; subst hu; exact h.cell h0
  · simp [Val.cells] at hu; subst hu; exact h.cell h1
  · simp [Val.cells] at hu; subst hu; exact h.cell h2
  · omega
theorem In.of_card {c : Card} {w : World} {g : Nat} (h : Blk w g c.arr) (hf : c.f.length = 8) : In 3 Val.cells w (some ⟨g, 3, none⟩) 8 c.f :=
  ⟨by omega, by omega, by omega, .inr ⟨g, 3, rfl, h.lt, .of_card h⟩⟩
set_option maxHeartbeats 1000000 in
theorem card_Check_ok (c : Card) (w : World) (hf : c.f.length = 8) (hs : ∀ x ∈ c.f, x.s.length ≤ 4294967000) (h : 1 ≤ c.id ∧ c.id < 1073741824 ∧ 1 ≤ c.ver ∧ c.ver ≤ 1099511627776 ∧ c.lab < 65536) : Calls Tryd.prog 55 #[.agg c.arr] w (RetV w (.bool c.ok)) := by
  obtain ⟨h0, h1, h2⟩ := c.arr_head
  have E := Lib.hid (Card.ok_head h)
  obtain ⟨a1, a2, a3, a4, a5⟩ := h
  have b1 : decide (c.id < 1) = false := by simp; omega
  have b2 : decide (1073741824 ≤ c.id) = false := by simp; omega
  have b3 : decide (c.ver < 1) = false := by simp; omega
  have b4 : decide (1099511627776 < c.ver) = false := by simp; omega
  have b5 : ((c.lab : Int) / 65536 != 0) = false := by simp; omega
  have hc := fun w' h => c_ContainsFunc c.f (some ⟨w.heap.size, 3, none⟩) 8 w' h (by omega) hs
  rw [hf] at hc
  have HF := Lib.hid hf
  clear hf
  go_enter Tryd.func55, Tryd.ntmps55
  go_wp2_with (go_at_call 70; refine (hc _ (.of_card (Blk.new _ _ _) HF.out)).mono ?_; rintro e w1 ⟨rfl, hb1⟩; have hb2 : Below w.heap.size w w1 := ((Below.refl _ _).alloc (Nat.le_refl _) _).trans (hb1.mono (by simp)))
  go_ret
  refine RetV.bool ?_ hb2
  rw [E.out]
theorem c_card_Check (c : Card) (w : World) (hf : c.f.length = 8) (hs : ∀ x ∈ c.f, x.s.length ≤ 4294967000) : Calls Tryd.prog 55 #[.agg c.arr] w (RetV w (.bool c.ok)) := by
  by_cases h : 1 ≤ c.id ∧ c.id < 1073741824 ∧ 1 ≤ c.ver ∧ c.ver ≤ 1099511627776 ∧ c.lab < 65536
  · exact card_Check_ok c w hf hs h
  · exact card_Check_bad c w h
end Go.Proofs.YtldoedmclfbgpaaDoor
namespace Go.Proofs.YtldoedmclfbgpaaDoor
open Go.RowKit

def fitAt (m k : Nat) (x : Val) : Bool := x.ok && (decide (x.kind = 0) || m.testBit k)
def fits (m : Nat) (f : List Val) : Bool := (List.range f.length).all fun k => (f[k]?).all (fitAt m k)
def Patch.code (p : Patch) : Int := if p.mask = 0 ∨ 511 < p.mask then 11 else if 65536 ≤ p.lab ∨ (p.lab ≠ 0 ∧ p.mask.testBit 8 = false) then 1 else if fits p.mask p.f then 0 else 1
theorem Patch.code_mask {p : Patch} (h : p.mask = 0 ∨ 511 < p.mask) : p.code = 11 := by unfold Patch.code; rw [if_pos h]
theorem Patch.code_lab {p : Patch} (h1 : p.mask ≠ 0) (h2 : p.mask ≤ 511) (h : 65536 ≤ p.lab ∨ (p.lab ≠ 0 ∧ p.mask.testBit 8 = false)) : p.code = 1 := by unfold Patch.code; rw [if_neg (by omega), if_pos h]
theorem Patch.row {p : Patch} {w : World} {g : Nat} (h : Blk w g p.arr) {k : Nat} (hk : k < p.f.length) : w.cell? ⟨g, 2 + k * 3, none⟩ = some (.int .i64 p.f[k].kind) ∧ w.cell? ⟨g, 2 + k * 3 + 1, none⟩ = some (.int .i64 p.f[k].n) ∧ w.cell? ⟨g, 2 + k * 3 + 2, none⟩ = some (.string (str p.f[k].s)) := by
  obtain ⟨h0, h1, h2⟩ := Patch.arr_val (c := p) hk
  exact ⟨h.cell h0, h.cell h1, h.cell h2⟩
/-! The program's. -/
theorem Patch.part {p : Patch} {w : World} {g : Nat} (h : Blk w g p.arr) (j : Nat) (u : Value) (hu : (farr p.f)[j]? = some u) : w.cell? ⟨g, 2 + j, none⟩ = some u := h.cell (by rw [Patch.arr_tail]; exact hu)
theorem Patch.go (p : Patch) {Q : Prop} (h1 : (p.code = 11 ∧ (p.mask = 0 ∨ 511 < p.mask) ∨ p.code = 1 ∧ p.mask ≠ 0 ∧ p.mask ≤ 511 ∧ (65536 ≤ p.lab ∨ (p.lab ≠ 0 ∧ p.mask.testBit 8 = false))) → Q)
    (h2 : p.mask ≠ 0 → p.mask ≤ 511 → p.lab < 65536 → (p.lab = 0 ∨ p.mask.testBit 8 = true) → Q) : Q := by
  by_cases a : p.mask = 0 ∨ 511 < p.mask
  · exact h1 (.inl ⟨Patch.code_mask a, a⟩)
  · by_cases b : 65536 ≤ p.lab ∨ (p.lab ≠ 0 ∧ p.mask.testBit 8 = false)
    · exact h1 (.inr ⟨Patch.code_lab (by omega) (by omega) b, by omega, by omega, b⟩)
    · refine h2 (by omega) (by omega) (by omega) ?_
      cases h8 : p.mask.testBit 8
      · rw [h8] at b; left; simp at b; omega
      · right; rfl
end Go.Proofs.YtldoedmclfbgpaaDoor
namespace Go.Proofs.YtldoedmclfbgpaaDoor
open Go.RowKit

theorem elemB : Elem Tryd.prog 22 5 1 1 := Elem.mk' Tryd.underlying22 (z := .int .u8 0) (by kernel_rfl) rfl (by omega) (by omega)

theorem or128 (v : Nat) : bits .or .u8 ((v : Int) % 256) 128 = ((v % 128 + 128 : Nat) : Int) := by
  have h1 := u8_or_nat (v % 256) 128 (Nat.mod_lt _ (by omega)) (by omega)
  have h2 : ∀ a : Fin 256, (a.val ||| 128) = a.val % 128 + 128 := by decide +kernel
  have h3 := h2 ⟨v % 256, Nat.mod_lt _ (by omega)⟩
  simp only at h3
  rw [h3] at h1
  have e : ((v : Int) % 256) = ((v % 256 : Nat) : Int) := by omega
  rw [e]
  refine Eq.trans h1 ?_
  omega

set_option maxHeartbeats 400000 in
set_option maxRecDepth 4000 in
theorem c_octet_Num (l : List UInt8) (A : Option Addr) (c : Nat) (n : Int) (w : World) (h : InB w A c l) :
    Calls Tryd.prog 36 #[.slice A l.length c, .int .i64 n] w (RetS 1 bc 5 w (l ++ num n)) := by
  have hL := h.1
  have hC := h.2.1
  have hS := h.2.2.1
  have EB := elemB
  have H0 : Held w w.heap.size 5 1 (.slice A l.length l.length) l.length (l.flatMap bc) := Held.of_in bc_len (by omega) h
  go_enter Tryd.func36, Tryd.ntmps36
  have Hnum : Hid (l ++ numF 6 (clampN n) = l ++ num n) := by show _ = _; rw [num_def]
  have hlt0 := clampN_lt n
  have hle0 := clampN_le n
  have hci := clampN_int n
  go_wp2_with (fail)
  go_loopw [0, 5] (fun b v wr => ∃ (f vn : Nat) (acc : List UInt8), vn ≤ 1099511627776 ∧ Hid (vn < 128 ^ (f + 1)) ∧ acc.length + f ≤ l.length + 6 ∧ v = .int .i64 vn ∧ Hid (Held wr w.heap.size 5 1 b acc.length (acc.flatMap bc)) ∧ Hid (acc ++ numF f vn = l ++ num n) ∧ Below w.heap.size w wr)
    (fun _ v _ => (intOf v).toNat)
  case atStart => exact ⟨6, clampN n, l, hle0, hlt0, by omega, by rw [hci], H0, Hnum, (by repeat (first | exact Below.refl _ _ | refine Below.drew ?_ | refine Below.alloc ?_ (by first | omega | (simp; done) | (simp; omega)) _ | refine Below.setCell ?_ (by first | omega | (simp; done) | (simp; omega)) _ | refine Below.trans ?_ (Below.mono (by assumption) (by first | omega | (simp; done) | (simp; omega)))))⟩
  case round =>
    obtain ⟨f, vn, acc, hle, hlt, hlen, rfl, H, HN, hbl⟩ := hrel
    have hbz := hbl.size
    obtain ⟨A1, c1, rfl⟩ := H.out.shape
    by_cases hv : vn < 128
    · have HN' : acc ++ [UInt8.ofNat vn] = l ++ num n := by rw [← numF_lt hv]; exact HN.out
      have HF := Lib.hid HN'
      clear HN HN' Hnum hlt hlt0 hci h
      go_wp2_with ((at_builtin; refine Stop.out ?_))
      refine Stop.mk (wpList_appH _ rfl (.tmp 25) (.tmp 28) EB rfl w.heap.size (.slice A1 acc.length c1) acc.length (acc.flatMap bc) rfl (H.out.below ((Below.refl _ _).alloc (Nat.le_refl _) _)) _ 1 1 [.int .u8 vn] rfl (Src.new _ _ _ _ rfl) (by simp [Value.oneCell']) (by omega) (by omega) ?_ ?_)
      · simp only [World.size_alloc]; omega
      intro v2 w2 own2 hb2
      have hfin : Hid (acc.flatMap bc ++ [Value.int .u8 vn] = (l ++ num n).flatMap bc ∧ acc.length + 1 = (l ++ num n).length) := by
        show _ ∧ _
        rw [← HF.out]
        refine ⟨?_, by simp⟩
        rw [List.flatMap_append]
        simp [bc]; omega
      obtain ⟨e1, e2⟩ := hfin.out
      rw [e1, e2] at own2
      have O2 := Lib.hid own2
      clear own2 e1 e2
      go_wp2_with (fail)
      go_ret
      exact ⟨_, rfl, O2.out, Below.trans (b := wr) hbl (Below.trans (b := wr.alloc (.cells #[.int .u8 vn] 5)) (by repeat (first | exact Below.refl _ _ | refine Below.drew ?_ | refine Below.alloc ?_ (by first | omega | (simp; done) | (simp; omega)) _ | refine Below.setCell ?_ (by first | omega | (simp; done) | (simp; omega)) _ | refine Below.trans ?_ (Below.mono (by assumption) (by first | omega | (simp; done) | (simp; omega))))) hb2)⟩
    · obtain ⟨f', rfl⟩ : ∃ f', f = f' + 1 := by
        cases f with
        | zero => exact absurd hlt.out (by omega)
        | succ f => exact ⟨f, rfl⟩
      have hlt2 : Hid (vn / 128 < 128 ^ (f' + 1)) := Nat.div_lt_of_lt_mul (by have := hlt.out; rw [Nat.pow_succ 128 (f' + 1), Nat.mul_comm] at this; exact this)
      have hn2 := HN.out
      rw [numF_ge hv] at hn2
      have HN2 := Lib.hid hn2
      clear HN hn2 hlt hlt0 hci h Hnum
      have hor := or128 vn
      go_wp2_with ((at_builtin; refine Stop.out ?_))
      refine Stop.mk (wpList_appH _ rfl (.tmp 17) (.tmp 21) EB rfl w.heap.size (.slice A1 acc.length c1) acc.length (acc.flatMap bc) rfl (H.out.below ((Below.refl _ _).alloc (Nat.le_refl _) _)) _ 1 1 [.int .u8 ((vn % 128 + 128 : Nat) : Int)] rfl (Src.new _ _ _ _ rfl) (by simp [Value.oneCell']) (by omega) (by omega) ?_ ?_)
      · simp only [World.size_alloc]; omega
      intro v2 w2 own2 hb2
      have hfin : Hid (acc.flatMap bc ++ [Value.int .u8 ((vn % 128 + 128 : Nat) : Int)] = (acc ++ [UInt8.ofNat (vn % 128 + 128)]).flatMap bc ∧ acc.length + 1 = (acc ++ [UInt8.ofNat (vn % 128 + 128)]).length) := by
        show _ ∧ _
        refine ⟨?_, by simp⟩
        rw [List.flatMap_append]
        simp [bc]; omega
      obtain ⟨e1, e2⟩ := hfin.out
      rw [e1, e2] at own2
      have O2 := Lib.hid own2
      have hb3 : Below w.heap.size w w2 := Below.trans (b := wr) hbl (Below.trans (b := wr.alloc (.cells #[.int .u8 ((vn % 128 + 128 : Nat) : Int)] 5)) (by repeat (first | exact Below.refl _ _ | refine Below.drew ?_ | refine Below.alloc ?_ (by first | omega | (simp; done) | (simp; omega)) _ | refine Below.setCell ?_ (by first | omega | (simp; done) | (simp; omega)) _ | refine Below.trans ?_ (Below.mono (by assumption) (by first | omega | (simp; done) | (simp; omega))))) hb2)
      clear own2 e1 e2
      go_wp2_with (fail)
      go_roundw
      case rel =>
        refine ⟨f', vn / 128, acc ++ [UInt8.ofNat (vn % 128 + 128)], by omega, hlt2, by simp; omega, by go_num, .inl O2.out, ?_, hb3⟩
        show _ = _
        rw [← HN2.out]; simp
      case measure => simp [intOf]; omega
set_option maxHeartbeats 400000 in
set_option maxRecDepth 4000 in
theorem c_octet_Str (l : List UInt8) (A : Option Addr) (c : Nat) (s : List UInt8) (w : World) (h : InB w A c l) (hs : s.length ≤ 4294967000) :
    Calls Tryd.prog 74 #[.slice A l.length c, .string (str s)] w (RetS 1 bc 5 w (l ++ strB s)) := by
  have hL := h.1
  have hC := h.2.1
  have hS := h.2.2.1
  have EB := elemB
  go_enter Tryd.func74, Tryd.ntmps74
  go_wp2_with (first
    | (go_at_call 36; refine (c_octet_Num l A c _ _ h).mono ?_; rintro e w1 ⟨v1, rfl, own1, hb1⟩)
    | (at_builtin; refine Stop.out ?_))
  have hnl := num_len (s.length : Int)
  refine Stop.mk (wpList_appS _ rfl (.tmp 8) (.tmp 9) Tryd.underlying22 Tryd.underlying9 (by kernel_rfl) rfl w.heap.size _ _ _ rfl own1 s rfl (by simp only [List.length_append]; omega) hb1.size ?_)
  intro v2 w2 own2 _ hb2
  have hfin : Hid ((l ++ num s.length).flatMap bc ++ s.flatMap bc = (l ++ strB s).flatMap bc ∧ (l ++ num s.length).length + s.length = (l ++ strB s).length) := by
    show _ ∧ _
    refine ⟨?_, by simp [strB]; omega⟩
    rw [← List.flatMap_append]; simp [strB]
  obtain ⟨e1, e2⟩ := hfin.out
  rw [e1, e2] at own2
  have O2 := Lib.hid own2
  clear own2 e1 e2 own1
  go_wp2_with (fail)
  go_ret
  exact ⟨_, rfl, O2.out, hb1.trans hb2⟩
set_option maxHeartbeats 400000 in
set_option maxRecDepth 4000 in
theorem c_Clone_b (l : List UInt8) (A : Option Addr) (c : Nat) (w : World) (h : In 1 bc w A c l) :
    Calls Tryd.prog 35 #[.slice A l.length c] w (RetS 1 bc 5 w l) := by
  have hL := h.1
  have hC := h.2.1
  have hS := h.2.2.1
  have EB := elemB
  rcases A with _ | ad
  · have hl : l = [] := by
      rcases h.2.2.2 with h | ⟨b, off, hh, _⟩
      · exact h
      · cases hh
    subst hl
    clear h
    have ke := fun (w : World) (n c : Nat) => Lib.run_eql_slice_nil (P := Tryd.prog) w 22 _ none n c 0 0 Tryd.underlying22
    go_enter Tryd.func35, Tryd.ntmps35
    go_wp2_with (fail)
    go_ret
    exact ⟨_, rfl, World.ownsRow_nil _ _ _ _, Below.refl _ _⟩
  · have ke := fun (w : World) (n c : Nat) => Lib.run_eql_slice_nil (P := Tryd.prog) w 22 _ (some ad) n c 0 0 Tryd.underlying22
    go_enter Tryd.func35, Tryd.ntmps35
    go_wp2_with ((at_builtin; refine Stop.out ?_))
    refine Stop.mk (wpList_app _ rfl (.tmp 5) (.tmp 6) EB rfl w.heap.size (.slice (some ⟨w.heap.size, 0, none⟩) 0 0) 0 [] rfl (World.ownsRow_lit w #[] 0 (Nat.le_refl _) (by unfold maxLen; omega) (by simp)) (some ad) l.length c (l.flatMap bc) rfl (Src.of_in bc_len (by omega) (h.alloc _)) (bc_one _) (by omega) ?_ ?_)
    · simp only [World.size_alloc]; omega
    intro v2 w2 own2 _ hb2 _
    rw [Nat.zero_add, List.nil_append] at own2
    have hb3 : Below w.heap.size w w2 := Below.trans (b := w.alloc (.cells #[] 5)) (by repeat (first | exact Below.refl _ _ | refine Below.drew ?_ | refine Below.alloc ?_ (by first | omega | (simp; done) | (simp; omega)) _ | refine Below.setCell ?_ (by first | omega | (simp; done) | (simp; omega)) _ | refine Below.trans ?_ (Below.mono (by assumption) (by first | omega | (simp; done) | (simp; omega))))) hb2
    go_wp2_with (fail)
    go_ret
    exact ⟨_, rfl, own2, hb3⟩
end Go.Proofs.YtldoedmclfbgpaaDoor
namespace Go.Proofs.YtldoedmclfbgpaaDoor
open Go.RowKit

/-- A value's bytes. -/
def valB (x : Val) : List UInt8 := if x.ok then num x.kind ++ (if x.kind = 1 then num x.n else if x.kind = 2 then strB x.s else []) else []
theorem valB_none {x : Val} (h : x.ok = false) : valB x = [] := by unfold valB; rw [h]; rfl
theorem valB_0 {x : Val} (h : x.ok = true) (hk : x.kind = 0) : valB x = num x.kind := by unfold valB; rw [if_pos h, if_neg (by omega), if_neg (by omega), List.append_nil]
theorem valB_1 {x : Val} (h : x.ok = true) (hk : x.kind = 1) : valB x = num x.kind ++ num x.n := by unfold valB; rw [if_pos h, if_pos hk]
theorem valB_2 {x : Val} (h : x.ok = true) (hk : x.kind = 2) : valB x = num x.kind ++ strB x.s := by unfold valB; rw [if_pos h, if_neg (by omega), if_pos hk]
theorem Val.ok_len {x : Val} (h : x.ok = true) : x.s.length ≤ 24 := by
  unfold Val.ok at h
  by_cases h0 : x.kind = 0
  · simp [h0] at h; simp [h.2]
  · by_cases h1 : x.kind = 1
    · simp [h1] at h; simp [h.2]
    · by_cases h2 : x.kind = 2
      · simp [h2] at h; exact h.2
      · simp [h0, h1, h2] at h
theorem valB_len (x : Val) : (valB x).length ≤ 38 := by
  rcases Val.ok_cases x with ⟨h, _⟩ | ⟨h, _, hk⟩ | ⟨h, _, hk⟩ | ⟨h, _, hk⟩
  · rw [valB_none h]; simp
  · have := num_len x.kind; rw [valB_0 h hk]; omega
  · have := num_len x.kind; have := num_len x.n; rw [valB_1 h hk, List.length_append]; omega
  · have := num_len x.kind; have := num_len x.s.length; have := Val.ok_len h; rw [valB_2 h hk, List.length_append, strB, List.length_append]; omega

set_option maxHeartbeats 400000 in
set_option maxRecDepth 4000 in
theorem c_cardwire_PutValue (l : List UInt8) (A : Option Addr) (c : Nat) (x : Val) (w : World) (h : InB w A c l) (hl : l.length ≤ 1073741824) (hs : x.s.length ≤ 4294967000) :
    Calls Tryd.prog 57 #[.slice A l.length c, x.val] w (RetS 1 bc 5 w (l ++ valB x)) := by
  have hL := h.1
  have hC := h.2.1
  have hS := h.2.2.1
  have hn1 := (num_len x.kind).2
  have hn2 := (num_len x.n).2
  unfold Val.val
  rcases Val.ok_cases x with ⟨hok, _⟩ | ⟨hok, _, hk⟩ | ⟨hok, _, hk⟩ | ⟨hok, _, hk⟩
  · have H : Hid (l = l ++ valB x) := by rw [valB_none hok, List.append_nil]; rfl
    go_enter Tryd.func57, Tryd.ntmps57
    go_wp2_with (first
      | (go_at_call 72; refine (c_value_Check x _ (by omega)).mono ?_; rintro e w1 ⟨rfl, hb1⟩; have hz1 := hb1.size; simp only [World.size_alloc] at hz1; have q1 := fun o => hb1.cell (p := ⟨w.heap.size, o, none⟩) (by simp); have hlt1 : w.heap.size < w1.heap.size := by omega)
      | (go_at_call 35; refine (c_Clone_b l A c _ (h.below (by repeat (first | exact Below.refl _ _ | refine Below.drew ?_ | refine Below.alloc ?_ (by first | omega | (simp; done) | (simp; omega)) _ | refine Below.setCell ?_ (by first | omega | (simp; done) | (simp; omega)) _ | refine Below.trans ?_ (Below.mono (by assumption) (by first | omega | (simp; done) | (simp; omega))))))).mono ?_; rintro e w2 ⟨v2, rfl, own2, hb2⟩))
    go_ret
    exact RetS.of own2 (by omega) H.out (by repeat (first | exact Below.refl _ _ | refine Below.drew ?_ | refine Below.alloc ?_ (by first | omega | (simp; done) | (simp; omega)) _ | refine Below.setCell ?_ (by first | omega | (simp; done) | (simp; omega)) _ | refine Below.trans ?_ (Below.mono (by assumption) (by first | omega | (simp; done) | (simp; omega)))))
  · have H : Hid (l ++ num x.kind = l ++ valB x) := by rw [valB_0 hok hk]; rfl
    obtain ⟨k, n, s⟩ := x
    obtain rfl : k = 0 := hk
    simp only at *
    go_enter Tryd.func57, Tryd.ntmps57
    go_wp2_with (first
      | (go_at_call 72; refine (c_value_Check ⟨0, n, s⟩ _ (by have := hs; simp at this ⊢; omega)).mono ?_; rintro e w1 ⟨rfl, hb1⟩; have hz1 := hb1.size; simp only [World.size_alloc] at hz1; have q1 := fun o => hb1.cell (p := ⟨w.heap.size, o, none⟩) (by simp); have hlt1 : w.heap.size < w1.heap.size := by omega)
      | (go_at_call 36; refine (c_octet_Num l A c _ _ (h.below (by repeat (first | exact Below.refl _ _ | refine Below.drew ?_ | refine Below.alloc ?_ (by first | omega | (simp; done) | (simp; omega)) _ | refine Below.setCell ?_ (by first | omega | (simp; done) | (simp; omega)) _ | refine Below.trans ?_ (Below.mono (by assumption) (by first | omega | (simp; done) | (simp; omega))))))).mono ?_; rintro e w2 ⟨v2, rfl, own2, hb2⟩; have q2 := fun o => hb2.cell (p := ⟨w.heap.size, o, none⟩) (by omega)))
    go_ret
    exact RetS.of own2 (by omega) H.out (by repeat (first | exact Below.refl _ _ | refine Below.drew ?_ | refine Below.alloc ?_ (by first | omega | (simp; done) | (simp; omega)) _ | refine Below.setCell ?_ (by first | omega | (simp; done) | (simp; omega)) _ | refine Below.trans ?_ (Below.mono (by assumption) (by first | omega | (simp; done) | (simp; omega)))))
  · have H : Hid (l ++ num x.kind ++ num x.n = l ++ valB x) := by rw [valB_1 hok hk, List.append_assoc]; rfl
    obtain ⟨k, n, s⟩ := x
    obtain rfl : k = 1 := hk
    simp only at *
    go_enter Tryd.func57, Tryd.ntmps57
    go_wp2_with (first
      | (go_at_call 72; refine (c_value_Check ⟨1, n, s⟩ _ (by have := hs; simp at this ⊢; omega)).mono ?_; rintro e w1 ⟨rfl, hb1⟩; have hz1 := hb1.size; simp only [World.size_alloc] at hz1; have q1 := fun o => hb1.cell (p := ⟨w.heap.size, o, none⟩) (by simp); have hlt1 : w.heap.size < w1.heap.size := by omega)
      | (go_at_call 36; refine (c_octet_Num l2 A2 c2 _ _ in2).mono ?_; rintro e w3 ⟨v3, rfl, own3, hb3⟩)
      | (go_at_call 36; refine (c_octet_Num l A c _ _ (h.below (by repeat (first | exact Below.refl _ _ | refine Below.drew ?_ | refine Below.alloc ?_ (by first | omega | (simp; done) | (simp; omega)) _ | refine Below.setCell ?_ (by first | omega | (simp; done) | (simp; omega)) _ | refine Below.trans ?_ (Below.mono (by assumption) (by first | omega | (simp; done) | (simp; omega))))))).mono ?_; rintro e w2 ⟨v2, rfl, own2, hb2⟩; have hz2 := hb2.size; have q2 := fun o => hb2.cell (p := ⟨w.heap.size, o, none⟩) (by omega); obtain ⟨l2, A2, c2, H2, hl2, rfl, in2, own2'⟩ := own_open bc_len own2 (l.length + 7) (by simp only [List.length_append]; omega) (by omega); clear own2))
    go_ret
    exact RetS.of own3 (by omega) (by rw [H2.out]; exact H.out) (by repeat (first | exact Below.refl _ _ | refine Below.drew ?_ | refine Below.alloc ?_ (by first | omega | (simp; done) | (simp; omega)) _ | refine Below.setCell ?_ (by first | omega | (simp; done) | (simp; omega)) _ | refine Below.trans ?_ (Below.mono (by assumption) (by first | omega | (simp; done) | (simp; omega)))))
  · have H : Hid (l ++ num x.kind ++ strB x.s = l ++ valB x) := by rw [valB_2 hok hk, List.append_assoc]; rfl
    obtain ⟨k, n, s⟩ := x
    obtain rfl : k = 2 := hk
    simp only at *
    go_enter Tryd.func57, Tryd.ntmps57
    go_wp2_with (first
      | (go_at_call 72; refine (c_value_Check ⟨2, n, s⟩ _ (by have := hs; simp at this ⊢; omega)).mono ?_; rintro e w1 ⟨rfl, hb1⟩; have hz1 := hb1.size; simp only [World.size_alloc] at hz1; have q1 := fun o => hb1.cell (p := ⟨w.heap.size, o, none⟩) (by simp); have hlt1 : w.heap.size < w1.heap.size := by omega)
      | (go_at_call 36; refine (c_octet_Num l A c _ _ (h.below (by repeat (first | exact Below.refl _ _ | refine Below.drew ?_ | refine Below.alloc ?_ (by first | omega | (simp; done) | (simp; omega)) _ | refine Below.setCell ?_ (by first | omega | (simp; done) | (simp; omega)) _ | refine Below.trans ?_ (Below.mono (by assumption) (by first | omega | (simp; done) | (simp; omega))))))).mono ?_; rintro e w2 ⟨v2, rfl, own2, hb2⟩; have hz2 := hb2.size; have q2 := fun o => hb2.cell (p := ⟨w.heap.size, o, none⟩) (by omega); obtain ⟨l2, A2, c2, H2, hl2, rfl, in2, own2'⟩ := own_open bc_len own2 (l.length + 7) (by simp only [List.length_append]; omega) (by omega); clear own2)
      | (go_at_call 74; refine (c_octet_Str l2 A2 c2 _ _ in2 (by omega)).mono ?_; rintro e w3 ⟨v3, rfl, own3, hb3⟩))
    go_ret
    exact RetS.of own3 (by omega) (by rw [H2.out]; exact H.out) (by repeat (first | exact Below.refl _ _ | refine Below.drew ?_ | refine Below.alloc ?_ (by first | omega | (simp; done) | (simp; omega)) _ | refine Below.setCell ?_ (by first | omega | (simp; done) | (simp; omega)) _ | refine Below.trans ?_ (Below.mono (by assumption) (by first | omega | (simp; done) | (simp; omega)))))
end Go.Proofs.YtldoedmclfbgpaaDoor
namespace Go.Proofs.YtldoedmclfbgpaaDoor
open Go.RowKit

abbrev vz : Val := ⟨0, 0, []⟩
abbrev f8z : List Val := List.replicate 8 vz
abbrev cz : Card := ⟨0, 0, 0, f8z⟩
abbrev pz : Patch := ⟨0, 0, f8z⟩
def at8 (f : List Val) (k : Nat) : Val := f.getD k vz
theorem at8_eq {f : List Val} {k : Nat} (h : k < f.length) : at8 f k = f[k] := by simp [at8, h]
abbrev ints (l : List Nat) : List Int := l.map Int.ofNat
/-- The fields below k that hold something. -/
def kindsTo (f : List Val) (k : Nat) : List Nat := (List.range k).filter fun i => decide ((at8 f i).kind ≠ 0)
def bitsTo (m k : Nat) : List Nat := (List.range k).filter m.testBit
def bodyF (f : List Val) (l : List Nat) : List UInt8 := l.flatMap fun k => valB (at8 f k)
theorem kindsTo_yes {f : List Val} {k : Nat} (h : (at8 f k).kind ≠ 0) : kindsTo f (k + 1) = kindsTo f k ++ [k] := by unfold kindsTo; rw [List.range_succ, List.filter_append]; simp [h]
theorem kindsTo_no {f : List Val} {k : Nat} (h : (at8 f k).kind = 0) : kindsTo f (k + 1) = kindsTo f k := by unfold kindsTo; rw [List.range_succ, List.filter_append]; simp [h]
theorem kindsTo_len (f : List Val) (k : Nat) : (kindsTo f k).length ≤ k := by have := List.length_filter_le (fun i => decide ((at8 f i).kind ≠ 0)) (List.range k); simpa [kindsTo] using this
theorem kindsTo_bd {f : List Val} {k n : Nat} (h : n ∈ kindsTo f k) : n < k := List.mem_range.1 (List.mem_filter.1 h).1
theorem bitsTo_bd {m k n : Nat} (h : n ∈ bitsTo m k) : n < k := List.mem_range.1 (List.mem_filter.1 h).1
theorem bodyF_len (f : List Val) : ∀ l : List Nat, (bodyF f l).length ≤ l.length * 38
  | [] => by simp [bodyF]
  | k :: l => by
    have h1 := bodyF_len f l
    have h2 := valB_len (at8 f k)
    unfold bodyF at *
    rw [List.flatMap_cons, List.length_append, List.length_cons]
    omega
theorem or_two {m k : Nat} (h : m < 2 ^ k) : m ||| 2 ^ k = m + 2 ^ k := by
  have := Nat.two_pow_add_eq_or_of_lt h 1
  rw [Nat.mul_one] at this
  rw [Nat.or_comm, ← this, Nat.add_comm]
/-- The mask of the fields below k. -/
def maskTo (f : List Val) (k : Nat) : Nat := maskOf (ints (kindsTo f k))
theorem maskTo_yes {f : List Val} {k : Nat} (hk : k ≤ 31) (h : (at8 f k).kind ≠ 0) : maskTo f (k + 1) = maskTo f k ||| 2 ^ k := by
  unfold maskTo
  rw [kindsTo_yes h]
  show maskOf (List.map Int.ofNat (kindsTo f k ++ [k])) = _
  rw [List.map_append]
  show maskOf (_ ++ [(k : Int)]) = _
  rw [maskOf_snoc, bitN_nat hk]
theorem maskTo_no {f : List Val} {k : Nat} (h : (at8 f k).kind = 0) : maskTo f (k + 1) = maskTo f k := by unfold maskTo; rw [kindsTo_no h]
theorem maskTo_lt (f : List Val) : ∀ k, k ≤ 32 → maskTo f k < 2 ^ k
  | 0, _ => by show 0 < 1; omega
  | k + 1, h => by
    have ih := maskTo_lt f k (by omega)
    rw [Nat.pow_succ]
    by_cases hk : (at8 f k).kind = 0
    · rw [maskTo_no hk]; omega
    · rw [maskTo_yes (by omega) hk, or_two ih]; omega
theorem maskTo_255 (f : List Val) : maskTo f 8 &&& 255 = maskTo f 8 := by
  have := maskTo_lt f 8 (by omega)
  have e : maskTo f 8 &&& (2 ^ 8 - 1) = maskTo f 8 % 2 ^ 8 := Nat.and_two_pow_sub_one_eq_mod _ _
  rw [show (255 : Nat) = 2 ^ 8 - 1 from rfl, e, Nat.mod_eq_of_lt this]
theorem Card.ok_bds {c : Card} (h : c.ok = true) : 1 ≤ c.id ∧ c.id < 1073741824 ∧ 1 ≤ c.ver ∧ c.ver ≤ 1099511627776 ∧ c.lab < 65536 ∧ vals c.f = true := by
  unfold Card.ok at h
  simp only [Bool.and_eq_true, decide_eq_true_eq] at h
  obtain ⟨⟨⟨⟨⟨h1, h2⟩, h3⟩, h4⟩, h5⟩, h6⟩ := h
  exact ⟨h1, h2, h3, h4, h5, h6⟩
def cardB (c : Card) : List UInt8 := if c.ok then num c.id ++ num c.ver ++ num c.lab ++ num (maskTo c.f 8) ++ bodyF c.f (kindsTo c.f 8) else []
theorem cardB_bad {c : Card} (h : c.ok = false) : cardB c = [] := by unfold cardB; rw [h]; rfl
theorem cardB_ok {c : Card} (h : c.ok = true) : cardB c = num c.id ++ num c.ver ++ num c.lab ++ num (maskTo c.f 8) ++ bodyF c.f (kindsTo c.f 8) := by unfold cardB; rw [if_pos h]
theorem cardB_len (c : Card) : (cardB c).length ≤ 332 := by
  cases h : c.ok
  · rw [cardB_bad h]; simp
  · rw [cardB_ok h]
    have h1 := (num_len c.id).2
    have h2 := (num_len c.ver).2
    have h3 := (num_len c.lab).2
    have h4 := (num_len (maskTo c.f 8)).2
    have h5 := bodyF_len c.f (kindsTo c.f 8)
    have h6 := kindsTo_len c.f 8
    simp only [List.length_append]
    omega
end Go.Proofs.YtldoedmclfbgpaaDoor
namespace Go.Proofs.YtldoedmclfbgpaaDoor
open Go.RowKit

structure Dead where
  id : Int
  ver : Int
  seq : Int
deriving DecidableEq
structure Grp where
  no : Int
  mem : List Int
deriving DecidableEq
structure Book where
  seq : Int
  next : Int
  cards : List Card
  dead : List Dead
  groups : List Grp
deriving DecidableEq
def Dead.cells (d : Dead) : List Value := [.int .i64 d.id, .int .i64 d.ver, .int .i64 d.seq]
theorem Dead.cells_len (d : Dead) : d.cells.length = 3 := rfl
theorem deads_one (l : List Dead) : ∀ u ∈ l.flatMap Dead.cells, u.oneCell' = true := by
  intro u hu
  obtain ⟨x, _, hx⟩ := List.mem_flatMap.1 hu
  simp only [Dead.cells, List.mem_cons, List.not_mem_nil, or_false] at hx
  rcases hx with rfl | rfl | rfl <;> rfl
/-! Cards that rise. -/
def cardAt (next last : Int) (c : Card) : Bool := c.ok && (decide (last < c.id) && decide (c.id < next))
def cardsOk (next : Int) : Int → List Card → Bool
  | _, [] => true
  | last, c :: r => cardAt next last c && cardsOk next c.id r
/-! Cards that were deleted. -/
def deadAt (next last : Int) (d : Dead) : Bool := decide (1 ≤ d.id ∧ d.id < next ∧ 1 ≤ d.ver ∧ d.ver ≤ 1099511627776 ∧ last ≤ d.seq ∧ d.seq ≤ 1099511627776)
def hasCard (cards : List Card) (id : Int) : Bool := cards.any fun c => decide (c.id = id)
def hasDead (dead : List Dead) (id : Int) : Bool := dead.any fun c => decide (c.id = id)
def deadsOk (next : Int) (cards : List Card) : List Dead → Int → List Dead → Bool
  | _, _, [] => true
  | was, last, d :: r => deadAt next last d && (!hasCard cards d.id && (!hasDead was d.id && deadsOk next cards (was ++ [d]) d.seq r))
def shelfOk (next : Int) (cards : List Card) (dead : List Dead) : Bool :=
  decide (1 ≤ next ∧ next ≤ 1073741824 ∧ cards.length ≤ 48 ∧ dead.length ≤ 40) && (cardsOk next 0 cards && deadsOk next cards [] 0 dead)
/-! Numbers and groups that rise. -/
def idsOk : Int → List Int → Bool
  | _, [] => true
  | last, x :: r => decide (last < x ∧ x < 1073741824) && idsOk x r
def grpAt (last : Int) (g : Grp) : Bool := decide (last < g.no ∧ g.no < 16) && idsOk 0 g.mem
def grpsOk : Int → List Grp → Bool
  | _, [] => true
  | last, g :: r => grpAt last g && grpsOk g.no r
def memOk (cards : List Card) (l : List Int) : Bool := l.all fun x => hasCard cards x
def lastSeq (dead : List Dead) : Int := (dead.getLast?.map (·.seq)).getD 0
def Book.ok (b : Book) : Bool :=
  shelfOk b.next b.cards b.dead && (decide (0 ≤ b.seq ∧ b.seq ≤ 1099511627776) && (grpsOk (-1) b.groups && (decide (b.dead = [] ∨ lastSeq b.dead ≤ b.seq) && b.groups.all fun g => memOk b.cards g.mem)))
def deadB (d : Dead) : List UInt8 := num d.id ++ (num d.ver ++ num d.seq)
def grpB (g : Grp) : List UInt8 := num g.no ++ (num g.mem.length ++ g.mem.flatMap num)
def bookB (b : Book) : List UInt8 :=
  if b.ok then num b.seq ++ (num b.next ++ (num b.cards.length ++ (b.cards.flatMap cardB ++ (num b.dead.length ++ (b.dead.flatMap deadB ++ (num b.groups.length ++ b.groups.flatMap grpB)))))) else []
theorem bookB_bad {b : Book} (h : b.ok = false) : bookB b = [] := by unfold bookB; rw [h]; rfl
theorem bookB_ok {b : Book} (h : b.ok = true) : bookB b = num b.seq ++ (num b.next ++ (num b.cards.length ++ (b.cards.flatMap cardB ++ (num b.dead.length ++ (b.dead.flatMap deadB ++ (num b.groups.length ++ b.groups.flatMap grpB)))))) := by unfold bookB; rw [if_pos h]
end Go.Proofs.YtldoedmclfbgpaaDoor
namespace Go.Proofs.YtldoedmclfbgpaaDoor
open Go.RowKit

/-- A card with its eight fields. -/
structure CQ where
  c : Card
  wf : c.f.length = 8
def CQ.cells (x : CQ) : List Value := x.c.arr.toList
theorem CQ.cells_len (x : CQ) : x.cells.length = 27 := by unfold CQ.cells; rw [Array.length_toList, Card.arr_size, x.wf]
/-- A group and where its members lie. -/
structure GQ where
  no : Int
  mem : List Int
  A : Option Addr
  c : Nat
def GQ.cells (x : GQ) : List Value := [.int .i64 x.no, .slice x.A x.mem.length x.c]
theorem GQ.cells_len (x : GQ) : x.cells.length = 2 := rfl
def GQ.g (x : GQ) : Grp := ⟨x.no, x.mem⟩
/-- A book in memory. -/
structure BQ where
  seq : Int
  next : Int
  cards : List CQ
  dead : List Dead
  groups : List GQ
  A : Option Addr
  a : Nat
  D : Option Addr
  d : Nat
  G : Option Addr
  g : Nat
def BQ.arr (b : BQ) : Array Value := #[.int .i64 b.seq, .int .i64 b.next, .slice b.A b.cards.length b.a, .slice b.D b.dead.length b.d, .slice b.G b.groups.length b.g]
def BQ.book (b : BQ) : Book := ⟨b.seq, b.next, b.cards.map CQ.c, b.dead, b.groups.map GQ.g⟩
/-- Its lists lie where said. -/
structure BQ.at_ (b : BQ) (w : World) : Prop where
  cards : In 27 CQ.cells w b.A b.a b.cards
  dead : In 3 Dead.cells w b.D b.d b.dead
  groups : In 2 GQ.cells w b.G b.g b.groups
  mem : ∀ x ∈ b.groups, InI w x.A x.c x.mem
  fit : ∀ x ∈ b.cards, ∀ y ∈ x.c.f, y.s.length ≤ 4294967000
theorem BQ.at_.below {b : BQ} {w w' : World} (h : b.at_ w) (hb : Below w.heap.size w w') : b.at_ w' := ⟨h.cards.below hb, h.dead.below hb, h.groups.below hb, fun x hx => (h.mem x hx).below hb, h.fit⟩
theorem drop_at {α : Type} {l : List α} {k : Nat} (h : k < l.length) : l.drop k = l[k] :: l.drop (k + 1) := List.drop_eq_getElem_cons h
/-! Numbers that rise: round by round. -/
theorem idsOk_at {l : List Int} {k : Nat} (h : k < l.length) (last : Int) : idsOk last (l.drop k) = (decide (last < l[k] ∧ l[k] < 1073741824) && idsOk l[k] (l.drop (k + 1))) := by rw [drop_at h, idsOk]
theorem idsOk_end {l : List Int} (last : Int) : idsOk last (l.drop l.length) = true := by rw [List.drop_length]; rfl
theorem grpsOk_at {l : List Grp} {k : Nat} (h : k < l.length) (last : Int) : grpsOk last (l.drop k) = (grpAt last l[k] && grpsOk l[k].no (l.drop (k + 1))) := by rw [drop_at h, grpsOk]
/-- Where the reference stands: the number before this one. -/
def before (l : List Int) (k : Nat) : Int := if k = 0 then 0 else l.getD (k - 1) 0
/-! What one list has that another, which rises as well, lacks. -/
theorem idsOk_tail {x last : Int} {l : List Int} (h : idsOk last (x :: l) = true) : last < x ∧ x < 1073741824 ∧ idsOk x l = true := by
  rw [idsOk, Bool.and_eq_true, decide_eq_true_eq] at h
  exact ⟨h.1.1, h.1.2, h.2⟩
end Go.Proofs.YtldoedmclfbgpaaDoor
namespace Go.Proofs.YtldoedmclfbgpaaDoor
open Go.RowKit

/-- Along two lists: what the left one has alone. -/
def alongM : List Int → List Int → List Int
  | [], _ => []
  | x :: a, [] => x :: a
  | x :: a, y :: b => if x < y then x :: alongM a (y :: b) else if y < x then alongM (x :: a) b else alongM a b
termination_by a b => a.length + b.length
theorem alongM_nil (b : List Int) : alongM [] b = [] := by unfold alongM; rfl
theorem alongM_nilr (a : List Int) : alongM a [] = a := by cases a <;> (unfold alongM; rfl)
theorem alongM_lt {x y : Int} {a b : List Int} (h : x < y) : alongM (x :: a) (y :: b) = x :: alongM a (y :: b) := by rw [alongM, if_pos h]
theorem alongM_gt {x y : Int} {a b : List Int} (h : y < x) : alongM (x :: a) (y :: b) = alongM (x :: a) b := by rw [alongM, if_neg (by omega), if_pos h]
theorem alongM_eq {x y : Int} {a b : List Int} (h : x = y) : alongM (x :: a) (y :: b) = alongM a b := by rw [alongM, if_neg (by omega), if_neg (by omega)]
/-- Strictly rising above a bound. -/
def risesI : Int → List Int → Prop
  | _, [] => True
  | last, x :: r => last < x ∧ risesI x r
theorem risesI_gt : ∀ (l : List Int) (last : Int), risesI last l → ∀ x ∈ l, last < x
  | [], _, _ => by intro x hx; cases hx
  | y :: l, last, h => by
    intro x hx
    rcases List.mem_cons.1 hx with rfl | hx
    · exact h.1
    · have := risesI_gt l y h.2 x hx; have := h.1; omega
theorem alongM_none : ∀ (n : Nat) (a b : List Int) (la lb : Int), a.length + b.length ≤ n → risesI la a → risesI lb b → (alongM a b = [] ↔ ∀ x ∈ a, x ∈ b)
  | n, [], b, la, lb, _, _, _ => by rw [alongM_nil]; simp
  | n, x :: a, [], la, lb, _, _, _ => by
    rw [alongM_nilr]
    constructor
    · intro h; cases h
    · intro h; have := h x (List.mem_cons_self ..); cases this
  | 0, x :: a, y :: b, la, lb, hn, _, _ => by simp at hn
  | n + 1, x :: a, y :: b, la, lb, hn, ha, hb => by
    simp only [List.length_cons] at hn
    rcases (show x < y ∨ y < x ∨ x = y by omega) with h | h | h
    · rw [alongM_lt h]
      constructor
      · intro e; cases e
      · intro e
        have h1 := e x (List.mem_cons_self ..)
        rcases List.mem_cons.1 h1 with h1 | h1
        · omega
        · have := risesI_gt b y hb.2 x h1; omega
    · rw [alongM_gt h, alongM_none n (x :: a) b la y (by simp only [List.length_cons]; omega) ha hb.2]
      constructor
      · intro e z hz; exact List.mem_cons_of_mem _ (e z hz)
      · intro e z hz
        rcases List.mem_cons.1 (e z hz) with h1 | h1
        · rcases List.mem_cons.1 hz with h2 | h2
          · omega
          · have := risesI_gt a x ha.2 z h2; omega
        · exact h1
    · rw [alongM_eq h, alongM_none n a b x y (by omega) ha.2 hb.2]
      constructor
      · intro e z hz
        rcases List.mem_cons.1 hz with h1 | h1
        · rw [h1, h]; exact List.mem_cons_self ..
        · exact List.mem_cons_of_mem _ (e z h1)
      · intro e z hz
        rcases List.mem_cons.1 (e z (List.mem_cons_of_mem _ hz)) with h1 | h1
        · have := risesI_gt a x ha.2 z hz; omega
        · exact h1
theorem risesI_of_ids : ∀ (l : List Int) (last : Int), idsOk last l = true → risesI last l
  | [], _, _ => trivial
  | x :: r, last, h => by
    obtain ⟨h1, -, h3⟩ := idsOk_tail h
    exact ⟨h1, risesI_of_ids r x h3⟩
theorem risesI_of_cards (next : Int) : ∀ (l : List Card) (last : Int), cardsOk next last l = true → risesI last (l.map (·.id))
  | [], _, _ => trivial
  | c :: r, last, h => by
    rw [cardsOk, Bool.and_eq_true] at h
    have h1 := h.1
    unfold cardAt at h1
    simp only [Bool.and_eq_true, decide_eq_true_eq] at h1
    exact ⟨h1.2.1, risesI_of_cards next r c.id h.2⟩
/-- A group's members are cards that are there. -/
theorem memOk_along {cards : List Card} {next : Int} {m : List Int} (hc : cardsOk next 0 cards = true) (hm : idsOk 0 m = true) : memOk cards m = decide (alongM m (cards.map (·.id)) = []) := by
  have h := alongM_none _ m (cards.map (·.id)) 0 0 (Nat.le_refl _) (risesI_of_ids m 0 hm) (risesI_of_cards next cards 0 hc)
  rw [Bool.eq_iff_iff, decide_eq_true_eq, h]
  unfold memOk hasCard
  simp only [List.all_eq_true, List.any_eq_true, decide_eq_true_eq, List.mem_map]
end Go.Proofs.YtldoedmclfbgpaaDoor
namespace Go.Proofs.YtldoedmclfbgpaaDoor
open Go.RowKit

/-- A value off bytes, and what the reader is then. -/
def rdVal' (st : Rd) : Rd := if rdN st 2 = 1 then rdN' (rdN' st 2) 1099511627776 else if rdN st 2 = 2 then rdS' (rdN' st 2) 24 else rdN' st 2
def rdVal (st : Rd) : Val := if (rdVal' st).e = 0 then ⟨rdN st 2, if rdN st 2 = 1 then rdN (rdN' st 2) 1099511627776 else 0, if rdN st 2 = 2 then rdS (rdN' st 2) 24 else []⟩ else ⟨0, 0, []⟩
theorem rdVal_bad {st : Rd} (h : (rdVal' st).e ≠ 0) : rdVal st = ⟨0, 0, []⟩ := by unfold rdVal; rw [if_neg h]
theorem rdVal_1 {st : Rd} (h : (rdVal' st).e = 0) (h1 : rdN st 2 = 1) : rdVal st = ⟨1, rdN (rdN' st 2) 1099511627776, []⟩ := by unfold rdVal; rw [if_pos h, h1]; rfl
theorem rdVal_2 {st : Rd} (h : (rdVal' st).e = 0) (h1 : rdN st 2 = 2) : rdVal st = ⟨2, 0, rdS (rdN' st 2) 24⟩ := by unfold rdVal; rw [if_pos h, h1]; rfl
theorem rdVal_0 {st : Rd} (h : (rdVal' st).e = 0) (h1 : rdN st 2 = 0) : rdVal st = ⟨0, 0, []⟩ := by unfold rdVal; rw [if_pos h, h1]; rfl
theorem rdVal'_1 {st : Rd} (h1 : rdN st 2 = 1) : rdVal' st = rdN' (rdN' st 2) 1099511627776 := by unfold rdVal'; rw [if_pos h1]
theorem rdVal'_2 {st : Rd} (h1 : rdN st 2 = 2) : rdVal' st = rdS' (rdN' st 2) 24 := by unfold rdVal'; rw [if_neg (by omega), if_pos h1]
theorem rdVal'_0 {st : Rd} (h1 : rdN st 2 = 0) : rdVal' st = rdN' st 2 := by unfold rdVal'; rw [if_neg (by omega), if_neg (by omega)]
theorem rdN2_cases (st : Rd) : rdN st 2 = 0 ∨ rdN st 2 = 1 ∨ rdN st 2 = 2 := by have := rdN_bd st 2; omega
theorem rdF_bad (st : Rd) {e : Int} (h : e ≠ 0) : (rdF st e).e ≠ 0 := by unfold rdF; split <;> assumption
theorem Val.none_eq {x : Val} (h : x.none = true) : x = ⟨0, 0, []⟩ := by
  obtain ⟨k, n, s⟩ := x
  simp only [Val.none, Bool.and_eq_true, decide_eq_true_eq, List.isEmpty_iff] at h
  obtain ⟨⟨rfl, rfl⟩, rfl⟩ := h
  rfl
theorem Val.ok_0 {x : Val} (h : x.ok = true) (hk : x.kind = 0) : x = ⟨0, 0, []⟩ := Val.none_eq (by rw [Val.none_kind h]; simpa using hk)
theorem Val.ok_1 {x : Val} (h : x.ok = true) (hk : x.kind = 1) : 0 ≤ x.n ∧ x.n ≤ 1099511627776 ∧ x.s = [] := by
  unfold Val.ok at h
  rw [if_neg (by omega), if_pos hk] at h
  simp only [Bool.and_eq_true, decide_eq_true_eq, List.isEmpty_iff] at h
  exact ⟨h.1.1, h.1.2, h.2⟩
theorem Val.ok_2 {x : Val} (h : x.ok = true) (hk : x.kind = 2) : x.n = 0 ∧ x.s.length ≤ 24 := by
  unfold Val.ok at h
  rw [if_neg (by omega), if_neg (by omega), if_pos hk] at h
  simp only [Bool.and_eq_true, decide_eq_true_eq] at h
  exact h
theorem Val.ok_kinds {x : Val} (h : x.ok = true) : x.kind = 0 ∨ x.kind = 1 ∨ x.kind = 2 := by
  unfold Val.ok at h
  by_cases h0 : x.kind = 0
  · exact .inl h0
  · by_cases h1 : x.kind = 1
    · exact .inr (.inl h1)
    · by_cases h2 : x.kind = 2
      · exact .inr (.inr h2)
      · simp [h0, h1, h2] at h
/-- A value that may be is read of its bytes. -/
theorem rdVal_put {x : Val} (h : x.ok = true) (r : List UInt8) : rdVal ⟨valB x ++ r, 0⟩ = x ∧ rdVal' ⟨valB x ++ r, 0⟩ = ⟨r, 0⟩ := by
  obtain ⟨k, n, s⟩ := x
  rcases Val.ok_kinds h with hk | hk | hk
  · have e := Val.ok_0 h hk
    obtain rfl : k = 0 := hk
    rw [valB_0 h rfl]
    obtain ⟨h1, h2⟩ := rdN_num (n := 0) (most := 2) r (by omega) (by omega) (by omega)
    have h3 : rdVal' ⟨num 0 ++ r, 0⟩ = ⟨r, 0⟩ := by rw [rdVal'_0 h1, h2]
    exact ⟨by rw [rdVal_0 (by rw [h3]) h1, e], h3⟩
  · obtain ⟨e1, e2, e3⟩ := Val.ok_1 h hk
    simp only at e1 e2 e3
    obtain rfl : k = 1 := hk
    subst e3
    rw [valB_1 h rfl, List.append_assoc]
    obtain ⟨h1, h2⟩ := rdN_num (n := 1) (most := 2) (num n ++ r) (by omega) (by omega) (by omega)
    obtain ⟨h3, h4⟩ := rdN_num (n := n) (most := 1099511627776) r e1 e2 e2
    have h5 : rdVal' ⟨num 1 ++ (num n ++ r), 0⟩ = ⟨r, 0⟩ := by rw [rdVal'_1 h1, h2, h4]
    exact ⟨by rw [rdVal_1 (by rw [h5]) h1, h2, h3], h5⟩
  · obtain ⟨e1, e2⟩ := Val.ok_2 h hk
    simp only at e1 e2
    obtain rfl : k = 2 := hk
    subst e1
    rw [valB_2 h rfl, List.append_assoc]
    obtain ⟨h1, h2⟩ := rdN_num (n := 2) (most := 2) (strB s ++ r) (by omega) (by omega) (by omega)
    obtain ⟨h3, h4⟩ := rdS_str (s := s) (most := 24) r (by omega) (by omega)
    have h5 : rdVal' ⟨num 2 ++ (strB s ++ r), 0⟩ = ⟨r, 0⟩ := by rw [rdVal'_2 h1, h2, h4]
    exact ⟨by rw [rdVal_2 (by rw [h5]) h1, h2, h3], h5⟩
/-- What was taken for a value is its bytes, and it may be. -/
theorem rdVal_took {st : Rd} (h : (rdVal' st).e = 0) : st.e = 0 ∧ (rdVal st).ok = true ∧ st.s = valB (rdVal st) ++ (rdVal' st).s := by
  rcases rdN2_cases st with h0 | h0 | h0
  · have h1 := rdVal'_0 h0
    have h' := h
    rw [h1] at h'
    obtain ⟨e, u, e1, e2, _⟩ := rdN_took h'
    have hv := rdVal_0 h h0
    have hok : (⟨0, 0, []⟩ : Val).ok = true := by decide
    rw [hv, h1, valB_0 hok rfl]
    exact ⟨e, hok, by rw [e1, e2, h0]⟩
  · have h1 := rdVal'_1 h0
    have h' := h
    rw [h1] at h'
    obtain ⟨e, u, e1, e2, _⟩ := rdN_took h'
    obtain ⟨f, u', f1, f2, _⟩ := rdN_took e
    have hb := rdN_bd (rdN' st 2) 1099511627776
    have hv := rdVal_1 h h0
    have hok : (⟨1, rdN (rdN' st 2) 1099511627776, []⟩ : Val).ok = true := by simp [Val.ok]; omega
    rw [hv, h1, valB_1 hok rfl]
    exact ⟨f, hok, by rw [f1, f2, e1, e2, h0]; simp⟩
  · have h1 := rdVal'_2 h0
    have h' := h
    rw [h1] at h'
    obtain ⟨e, u, e1, e2, e3⟩ := rdS_took h'
    obtain ⟨f, u', f1, f2, _⟩ := rdN_took e
    have hv := rdVal_2 h h0
    have hok : (⟨2, 0, rdS (rdN' st 2) 24⟩ : Val).ok = true := by simp [Val.ok]; omega
    rw [hv, h1, valB_2 hok rfl]
    exact ⟨f, hok, by rw [f1, f2, e1, e2, h0]; simp⟩
theorem rdVal'_len (st : Rd) : (rdVal' st).s.length ≤ st.s.length := by
  have h1 := rdN'_len st 2
  have h2 := rdN'_len (rdN' st 2) 1099511627776
  have h3 := rdS'_len (rdN' st 2) 24
  unfold rdVal'
  split
  · omega
  · split <;> omega
theorem rdVal_err {st : Rd} (h : st.e ≠ 0) : rdVal st = ⟨0, 0, []⟩ ∧ rdVal' st = st := by
  have h0 : rdVal' st = st := by rw [rdVal'_0 (rdN_err h).1, (rdN_err h).2]
  exact ⟨rdVal_bad (by rw [h0]; exact h), h0⟩
theorem rdVal_ok (st : Rd) : (rdVal st).ok = true := by
  by_cases h : (rdVal' st).e = 0
  · exact (rdVal_took h).2.1
  · rw [rdVal_bad h]; decide
/-! A number that is not 0. -/
def rdAb' (st : Rd) (most : Int) : Rd := if rdN st most = 0 then rdF (rdN' st most) 3 else rdN' st most
theorem rdAb'_zero {st : Rd} {most : Int} (h : rdN st most = 0) : rdAb' st most = rdF (rdN' st most) 3 := by unfold rdAb'; rw [if_pos h]
theorem rdAb'_pos {st : Rd} {most : Int} (h : rdN st most ≠ 0) : rdAb' st most = rdN' st most := by unfold rdAb'; rw [if_neg h]
theorem rdAb'_ok {st : Rd} {most : Int} (h : (rdAb' st most).e = 0) : rdN st most ≠ 0 ∧ rdAb' st most = rdN' st most := by
  by_cases h0 : rdN st most = 0
  · rw [rdAb'_zero h0] at h
    exact absurd h (rdF_bad _ (by decide))
  · exact ⟨h0, rdAb'_pos h0⟩
theorem rdAb'_len (st : Rd) (most : Int) : (rdAb' st most).s.length ≤ st.s.length := by
  have := rdN'_len st most
  unfold rdAb'; split
  · rw [rdF_s]; exact this
  · exact this
theorem rdAb_num {n most : Int} (r : List UInt8) (h0 : 1 ≤ n) (h1 : n ≤ 1099511627776) (h : n ≤ most) : rdN ⟨num n ++ r, 0⟩ most = n ∧ rdAb' ⟨num n ++ r, 0⟩ most = ⟨r, 0⟩ := by
  obtain ⟨a, b⟩ := rdN_num (n := n) (most := most) r (by omega) h1 h
  exact ⟨a, by rw [rdAb'_pos (by rw [a]; omega), b]⟩
theorem rdAb_took {st : Rd} {most : Int} (h : (rdAb' st most).e = 0) : st.e = 0 ∧ st.s = num (rdN st most) ++ (rdAb' st most).s ∧ 1 ≤ rdN st most ∧ rdN st most ≤ most := by
  obtain ⟨h0, h1⟩ := rdAb'_ok h
  rw [h1] at h ⊢
  obtain ⟨e, u, e1, e2, e3⟩ := rdN_took h
  have := (rdN_bd st most).1
  exact ⟨e, by rw [e1, e2], by omega, e3⟩
theorem rdN_took2 {st : Rd} {most : Int} (h : (rdN' st most).e = 0) : st.e = 0 ∧ st.s = num (rdN st most) ++ (rdN' st most).s ∧ 0 ≤ rdN st most ∧ rdN st most ≤ most := by
  obtain ⟨e, u, e1, e2, e3⟩ := rdN_took h
  exact ⟨e, by rw [e1, e2], (rdN_bd st most).1, e3⟩
end Go.Proofs.YtldoedmclfbgpaaDoor
namespace Go.Proofs.YtldoedmclfbgpaaDoor
open Go.RowKit

def hasG (k : Int) : Bool := decide (4 ≤ k ∧ k ≤ 7)
def hasI (k : Int) : Bool := decide (k = 2 ∨ k = 3 ∨ k = 6 ∨ k = 7)
def hasP (k : Int) : Bool := decide (k = 1 ∨ k = 2)
def Edit.gOk (e : Edit) : Bool := decide (0 ≤ e.group ∧ e.group < 16) && (hasG e.kind || decide (e.group = 0))
def Edit.iOk (e : Edit) : Bool := if hasI e.kind then decide (1 ≤ e.id ∧ e.id < 1073741824) else decide (e.id = 0)
def Edit.code (e : Edit) : Int := if 1 ≤ e.kind ∧ e.kind ≤ 7 ∧ e.gOk = true ∧ e.iOk = true then (if hasP e.kind then e.p.code else if e.p = pz then 0 else 1) else 1
theorem Edit.part {e : Edit} {w : World} {g : Nat} (h : Blk w g e.arr) (j : Nat) (u : Value) (hu : e.p.arr[j]? = some u) : w.cell? ⟨g, 3 + j, none⟩ = some u := h.cell (by rw [Edit.arr_tail]; exact hu)
theorem Edit.arr_extract {e : Edit} (hf : e.p.f.length = 8) : e.arr.extract 3 (3 + 26) = e.p.arr := by
  have h1 := e.arr_size
  have h2 := e.p.arr_size
  apply Array.ext_getElem?
  intro i
  rw [Array.getElem?_extract]
  by_cases hi : i < 26
  · rw [if_pos (by omega), Edit.arr_tail]
  · rw [if_neg (by omega), Array.getElem?_eq_none (by omega)]
end Go.Proofs.YtldoedmclfbgpaaDoor
namespace Go.Proofs.YtldoedmclfbgpaaDoor
open Go.RowKit

/-! The values of fields. -/
def fldS (b : Bool) (st : Rd) : Rd := if b = false ∧ (rdVal st).kind = 0 then rdF (rdVal' st) 3 else rdVal' st
theorem fldS_true (st : Rd) : fldS true st = rdVal' st := by unfold fldS; rw [if_neg (by simp)]
theorem fldS_zero {st : Rd} (h : (rdVal st).kind = 0) : fldS false st = rdF (rdVal' st) 3 := by unfold fldS; rw [if_pos ⟨rfl, h⟩]
theorem fldS_pos {b : Bool} {st : Rd} (h : (rdVal st).kind ≠ 0) : fldS b st = rdVal' st := by unfold fldS; rw [if_neg (fun k => h k.2)]
theorem fldS_bad {b : Bool} {st : Rd} (h : st.e ≠ 0) : fldS b st = st := by
  unfold fldS
  rw [(rdVal_err h).2]
  split
  · exact rdF_err h
  · rfl
theorem fldS_ok {b : Bool} {st : Rd} (h : (fldS b st).e = 0) : fldS b st = rdVal' st ∧ (rdVal' st).e = 0 ∧ (b = false → (rdVal st).kind ≠ 0) := by
  unfold fldS at h ⊢
  by_cases hc : b = false ∧ (rdVal st).kind = 0
  · rw [if_pos hc] at h
    exact absurd h (rdF_bad _ (by decide))
  · rw [if_neg hc] at h ⊢
    exact ⟨rfl, h, fun hb hk => hc ⟨hb, hk⟩⟩
theorem fldS_len (b : Bool) (st : Rd) : (fldS b st).s.length ≤ st.s.length := by
  have := rdVal'_len st
  unfold fldS; split
  · rw [rdF_s]; exact this
  · exact this
def rdFs' (b : Bool) : List Nat → Rd → Rd
  | [], st => st
  | _ :: l, st => rdFs' b l (fldS b st)
def rdFv (b : Bool) : List Nat → Rd → List Val → List Val
  | [], _, f => f
  | k :: l, st, f => rdFv b l (fldS b st) (f.set k (rdVal st))
theorem rdFs'_bad {b : Bool} {st : Rd} (h : st.e ≠ 0) : ∀ l, rdFs' b l st = st
  | [] => rfl
  | _ :: l => by rw [rdFs', fldS_bad h]; exact rdFs'_bad h l
theorem rdFs'_len (b : Bool) : ∀ l st, (rdFs' b l st).s.length ≤ st.s.length
  | [], _ => Nat.le_refl _
  | _ :: l, st => by have := rdFs'_len b l (fldS b st); have := fldS_len b st; rw [rdFs']; omega
theorem rdFv_len (b : Bool) : ∀ l st f, (rdFv b l st f).length = f.length
  | [], _, _ => rfl
  | k :: l, st, f => by rw [rdFv, rdFv_len b l]; simp
theorem rdFv_ok (b : Bool) : ∀ l st f, (∀ x ∈ f, x.ok = true) → ∀ x ∈ rdFv b l st f, x.ok = true
  | [], _, _, h => h
  | k :: l, st, f, h => by
    refine rdFv_ok b l _ _ fun x hx => ?_
    rcases List.mem_or_eq_of_mem_set hx with h' | rfl
    · exact h x h'
    · exact rdVal_ok st
theorem at8_set {f : List Val} {k : Nat} (h : k < f.length) (x : Val) (j : Nat) : at8 (f.set k x) j = if j = k then x else at8 f j := by
  unfold at8
  rw [List.getD_eq_getElem?_getD, List.getD_eq_getElem?_getD, List.getElem?_set]
  by_cases hj : j = k
  · subst hj; simp [h]
  · rw [if_neg (fun e => hj e.symm), if_neg hj]
theorem at8_f8z (k : Nat) : at8 f8z k = vz := by
  unfold at8
  rw [List.getD_eq_getElem?_getD, List.getElem?_replicate]
  split <;> rfl
theorem rdFv_far (b : Bool) : ∀ l st f k, (∀ j ∈ l, j < f.length) → k ∉ l → at8 (rdFv b l st f) k = at8 f k
  | [], _, _, _, _, _ => rfl
  | j :: l, st, f, k, hl, hk => by
    rw [rdFv, rdFv_far b l _ _ k (fun i hi => by rw [List.length_set]; exact hl i (List.mem_cons_of_mem _ hi)) (fun h => hk (List.mem_cons_of_mem _ h)), at8_set (hl j (List.mem_cons_self ..))]
    rw [if_neg (fun e => hk (by rw [e]; exact List.mem_cons_self ..))]
/-- Fields are read of their bytes. -/
theorem rdFs_put (b : Bool) (f : List Val) (r : List UInt8) : ∀ l g, (∀ k ∈ l, (at8 f k).ok = true ∧ (b = false → (at8 f k).kind ≠ 0)) → (∀ k ∈ l, k < g.length) →
    rdFs' b l ⟨bodyF f l ++ r, 0⟩ = ⟨r, 0⟩ ∧ ∀ j, at8 (rdFv b l ⟨bodyF f l ++ r, 0⟩ g) j = if j ∈ l then at8 f j else at8 g j
  | [], g, _, _ => ⟨rfl, fun j => by rw [if_neg (by simp)]; rfl⟩
  | k :: l, g, h, hg => by
    obtain ⟨h1, h2⟩ := h k (List.mem_cons_self ..)
    obtain ⟨a, c⟩ := rdVal_put h1 (bodyF f l ++ r)
    have e : bodyF f (k :: l) ++ r = valB (at8 f k) ++ (bodyF f l ++ r) := by unfold bodyF; rw [List.flatMap_cons, List.append_assoc]
    have hs : fldS b ⟨bodyF f (k :: l) ++ r, 0⟩ = ⟨bodyF f l ++ r, 0⟩ := by
      rw [e]
      cases b
      · rw [fldS_pos (by rw [a]; exact h2 rfl), c]
      · rw [fldS_true, c]
    obtain ⟨i1, i2⟩ := rdFs_put b f r l (g.set k (rdVal ⟨bodyF f (k :: l) ++ r, 0⟩)) (fun j hj => h j (List.mem_cons_of_mem _ hj)) (fun j hj => by rw [List.length_set]; exact hg j (List.mem_cons_of_mem _ hj))
    rw [rdFs', rdFv, hs]
    refine ⟨i1, fun j => ?_⟩
    rw [i2 j, at8_set (hg k (List.mem_cons_self ..)), e, a]
    by_cases hj : j ∈ l
    · rw [if_pos hj, if_pos (List.mem_cons_of_mem _ hj)]
    · rw [if_neg hj]
      by_cases hk : j = k
      · subst hk; rw [if_pos rfl, if_pos (List.mem_cons_self ..)]
      · rw [if_neg hk, if_neg (fun h => (List.mem_cons.1 h).elim hk hj)]
/-- What was taken for fields is their bytes. -/
theorem rdFs_took (b : Bool) : ∀ l st g, (rdFs' b l st).e = 0 → l.Nodup → (∀ k ∈ l, k < g.length) →
    st.e = 0 ∧ st.s = bodyF (rdFv b l st g) l ++ (rdFs' b l st).s ∧ (b = false → ∀ k ∈ l, (at8 (rdFv b l st g) k).kind ≠ 0)
  | [], st, g, h, _, _ => ⟨h, rfl, fun _ _ hk => by cases hk⟩
  | k :: l, st, g, h, hn, hg => by
    obtain ⟨n1, n2⟩ := List.nodup_cons.1 hn
    rw [rdFs'] at h
    have hg' : ∀ j ∈ l, j < (g.set k (rdVal st)).length := fun j hj => by rw [List.length_set]; exact hg j (List.mem_cons_of_mem _ hj)
    obtain ⟨i1, i2, i3⟩ := rdFs_took b l (fldS b st) (g.set k (rdVal st)) h n2 hg'
    obtain ⟨s1, s2, s3⟩ := fldS_ok i1
    obtain ⟨t1, t2, t3⟩ := rdVal_took s2
    have hv : at8 (rdFv b (k :: l) st g) k = rdVal st := by rw [rdFv, rdFv_far b l _ _ k hg' n1, at8_set (hg k (List.mem_cons_self ..)), if_pos rfl]
    refine ⟨t1, ?_, fun hb j hj => ?_⟩
    · rw [t3]
      show _ = (valB (at8 (rdFv b (k :: l) st g) k) ++ bodyF (rdFv b (k :: l) st g) l) ++ _
      rw [hv, List.append_assoc, rdFs', rdFv]
      congr 1
      rw [← s1]; exact i2
    · rcases List.mem_cons.1 hj with rfl | hj
      · rw [hv]; exact s3 hb
      · rw [rdFv]; exact i3 hb j hj
/-! The fields of a mask, from one on. -/
def bitsFrom (m k : Nat) : List Nat := (List.range' k (8 - k)).filter m.testBit
theorem bitsFrom_yes {m k : Nat} (hk : k < 8) (h : m.testBit k = true) : bitsFrom m k = k :: bitsFrom m (k + 1) := by
  unfold bitsFrom
  rw [show 8 - k = (8 - (k + 1)) + 1 by omega, List.range'_succ, List.filter_cons_of_pos h]
theorem bitsFrom_no {m k : Nat} (hk : k < 8) (h : m.testBit k = false) : bitsFrom m k = bitsFrom m (k + 1) := by
  unfold bitsFrom
  rw [show 8 - k = (8 - (k + 1)) + 1 by omega, List.range'_succ, List.filter_cons_of_neg (by simp [h])]
theorem bitsFrom_zero (m : Nat) : bitsFrom m 0 = bitsTo m 8 := by unfold bitsFrom bitsTo; rw [List.range_eq_range']
theorem bitsTo_nodup (m k : Nat) : (bitsTo m k).Nodup := List.Pairwise.filter _ List.nodup_range
theorem bitsTo_mem {m k j : Nat} : j ∈ bitsTo m k ↔ j < k ∧ m.testBit j = true := by unfold bitsTo; rw [List.mem_filter, List.mem_range]
theorem maskTo_bit (f : List Val) : ∀ k, k ≤ 32 → ∀ j, (maskTo f k).testBit j = (decide (j < k) && decide ((at8 f j).kind ≠ 0))
  | 0, _, j => by rw [show maskTo f 0 = 0 from rfl]; simp
  | k + 1, h, j => by
    have ih := maskTo_bit f k (by omega) j
    by_cases hk : (at8 f k).kind = 0
    · rw [maskTo_no hk, ih]
      by_cases hj : j = k
      · subst hj; simp [hk]
      · have : decide (j < k + 1) = decide (j < k) := by congr 1; simp only [eq_iff_iff]; omega
        rw [this]
    · rw [maskTo_yes (by omega) hk, Nat.testBit_or, ih, Nat.testBit_two_pow]
      by_cases hj : j = k
      · subst hj; simp [hk]
      · have : decide (j < k + 1) = decide (j < k) := by congr 1; simp only [eq_iff_iff]; omega
        rw [this]
        simp [Ne.symm hj]
theorem bitsTo_maskTo (f : List Val) : bitsTo (maskTo f 8) 8 = kindsTo f 8 := by
  unfold bitsTo kindsTo
  refine List.filter_congr fun j hj => ?_
  rw [maskTo_bit f 8 (by omega), decide_eq_true (List.mem_range.1 hj), Bool.true_and]
theorem maskTo_of {f : List Val} {m : Nat} (hm : m < 256) (h : ∀ j, j < 8 → (m.testBit j = true ↔ (at8 f j).kind ≠ 0)) : maskTo f 8 = m := by
  refine Nat.eq_of_testBit_eq fun j => ?_
  rw [maskTo_bit f 8 (by omega)]
  by_cases hj : j < 8
  · rw [decide_eq_true hj, Bool.true_and, Bool.eq_iff_iff, decide_eq_true_eq]
    exact (h j hj).symm
  · rw [decide_eq_false hj, Bool.false_and]
    exact (Nat.testBit_lt_two_pow (Nat.lt_of_lt_of_le hm (by rw [show (256 : Nat) = 2 ^ 8 from rfl]; exact Nat.pow_le_pow_right (by omega) (by omega)))).symm
theorem at8_ext {f g : List Val} (hf : f.length = 8) (hg : g.length = 8) (h : ∀ j, j < 8 → at8 f j = at8 g j) : f = g := by
  apply List.ext_getElem (by omega)
  intro i h1 h2
  have := h i (by omega)
  rw [at8_eq h1, at8_eq h2] at this
  exact this
/-! Cards. -/
def cdA (st : Rd) : Rd := rdAb' st 1073741823
def cdB (st : Rd) : Rd := rdAb' (cdA st) 1099511627776
def cdC (st : Rd) : Rd := rdN' (cdB st) 65535
def cdD (st : Rd) : Rd := rdN' (cdC st) 255
def cdM (st : Rd) : Nat := (rdN (cdC st) 255).toNat
def cdF (st : Rd) : List Val := rdFv false (bitsTo (cdM st) 8) (cdD st) f8z
@[irreducible] def rdCard' (st : Rd) : Rd := rdFs' false (bitsTo (cdM st) 8) (cdD st)
def cdCard (st : Rd) : Card := ⟨rdN st 1073741823, rdN (cdA st) 1099511627776, (rdN (cdB st) 65535).toNat, cdF st⟩
@[irreducible] def rdCard (st : Rd) : Card := if (rdCard' st).e = 0 then cdCard st else cz
theorem rdCard'_def (st : Rd) : rdCard' st = rdFs' false (bitsTo (cdM st) 8) (cdD st) := by unfold rdCard'; rfl
theorem rdCard_ok {st : Rd} (h : (rdCard' st).e = 0) : rdCard st = cdCard st := by unfold rdCard; rw [if_pos h]
theorem rdCard_bad {st : Rd} (h : (rdCard' st).e ≠ 0) : rdCard st = cz := by unfold rdCard; rw [if_neg h]
theorem f8z_ok : ∀ x ∈ f8z, x.ok = true := fun x hx => by rw [List.eq_of_mem_replicate hx]; decide
theorem cdF_len (st : Rd) : (cdF st).length = 8 := by unfold cdF; rw [rdFv_len]; rfl
theorem rdCard_len (st : Rd) : (rdCard st).f.length = 8 := by
  unfold rdCard; split
  · exact cdF_len st
  · rfl
theorem rdCard'_len (st : Rd) : (rdCard' st).s.length ≤ st.s.length := by
  have h1 := rdAb'_len st 1073741823
  have h2 := rdAb'_len (cdA st) 1099511627776
  have h3 := rdN'_len (cdB st) 65535
  have h4 := rdN'_len (cdC st) 255
  have h5 := rdFs'_len false (bitsTo (cdM st) 8) (cdD st)
  rw [rdCard'_def]
  have e1 : cdA st = rdAb' st 1073741823 := rfl
  have e2 : cdB st = rdAb' (cdA st) 1099511627776 := rfl
  have e3 : cdC st = rdN' (cdB st) 65535 := rfl
  have e4 : cdD st = rdN' (cdC st) 255 := rfl
  rw [← e1] at h1; rw [← e2] at h2; rw [← e3] at h3; rw [← e4] at h4
  omega
theorem vals_mem {f : List Val} (h : vals f = true) {x : Val} (hx : x ∈ f) : x.ok = true := by unfold vals at h; exact List.all_eq_true.1 h x hx
theorem vals_at {f : List Val} (h : vals f = true) {k : Nat} (hk : k < f.length) : (at8 f k).ok = true := by rw [at8_eq hk]; exact vals_mem h (List.getElem_mem _)
/-- A card that may be is read of its bytes. -/
theorem rdCard_put {c : Card} (h : c.ok = true) (hf : c.f.length = 8) (r : List UInt8) : rdCard ⟨cardB c ++ r, 0⟩ = c ∧ rdCard' ⟨cardB c ++ r, 0⟩ = ⟨r, 0⟩ := by
  obtain ⟨a1, a2, a3, a4, a5, a6⟩ := Card.ok_bds h
  have hm := maskTo_lt c.f 8 (by omega)
  have e : cardB c ++ r = num c.id ++ (num c.ver ++ (num c.lab ++ (num (maskTo c.f 8) ++ (bodyF c.f (kindsTo c.f 8) ++ r)))) := by rw [cardB_ok h]; simp
  obtain ⟨p1, q1⟩ := rdAb_num (n := c.id) (most := 1073741823) (num c.ver ++ (num c.lab ++ (num (maskTo c.f 8) ++ (bodyF c.f (kindsTo c.f 8) ++ r)))) (by omega) (by omega) (by omega)
  obtain ⟨p2, q2⟩ := rdAb_num (n := c.ver) (most := 1099511627776) (num c.lab ++ (num (maskTo c.f 8) ++ (bodyF c.f (kindsTo c.f 8) ++ r))) (by omega) (by omega) (by omega)
  obtain ⟨p3, q3⟩ := rdN_num (n := c.lab) (most := 65535) (num (maskTo c.f 8) ++ (bodyF c.f (kindsTo c.f 8) ++ r)) (by omega) (by omega) (by omega)
  obtain ⟨p4, q4⟩ := rdN_num (n := (maskTo c.f 8 : Nat)) (most := 255) (bodyF c.f (kindsTo c.f 8) ++ r) (by omega) (by omega) (by omega)
  have hA : cdA ⟨cardB c ++ r, 0⟩ = ⟨num c.ver ++ (num c.lab ++ (num (maskTo c.f 8) ++ (bodyF c.f (kindsTo c.f 8) ++ r))), 0⟩ := by unfold cdA; rw [e, q1]
  have hB : cdB ⟨cardB c ++ r, 0⟩ = ⟨num c.lab ++ (num (maskTo c.f 8) ++ (bodyF c.f (kindsTo c.f 8) ++ r)), 0⟩ := by unfold cdB; rw [hA, q2]
  have hC : cdC ⟨cardB c ++ r, 0⟩ = ⟨num (maskTo c.f 8) ++ (bodyF c.f (kindsTo c.f 8) ++ r), 0⟩ := by unfold cdC; rw [hB, q3]
  have hD : cdD ⟨cardB c ++ r, 0⟩ = ⟨bodyF c.f (kindsTo c.f 8) ++ r, 0⟩ := by unfold cdD; rw [hC, q4]
  have hM : cdM ⟨cardB c ++ r, 0⟩ = maskTo c.f 8 := by unfold cdM; rw [hC, p4]; rfl
  have hk : ∀ k ∈ kindsTo c.f 8, k < 8 ∧ (at8 c.f k).kind ≠ 0 := fun k hk => ⟨kindsTo_bd hk, by simpa using (List.mem_filter.1 hk).2⟩
  obtain ⟨i1, i2⟩ := rdFs_put false c.f r (kindsTo c.f 8) f8z (fun k h' => ⟨vals_at a6 (by have := (hk k h').1; omega), fun _ => (hk k h').2⟩) (fun k h' => (hk k h').1)
  have hS : rdCard' ⟨cardB c ++ r, 0⟩ = ⟨r, 0⟩ := by rw [rdCard'_def, hM, hD, bitsTo_maskTo, i1]
  refine ⟨?_, hS⟩
  rw [rdCard_ok (by rw [hS])]
  unfold cdCard
  have hF : cdF ⟨cardB c ++ r, 0⟩ = c.f := by
    refine at8_ext (cdF_len _) hf fun j hj => ?_
    unfold cdF
    rw [hM, hD, bitsTo_maskTo, i2 j]
    by_cases hj' : j ∈ kindsTo c.f 8
    · rw [if_pos hj']
    · rw [if_neg hj', at8_f8z]
      have hk0 : (at8 c.f j).kind = 0 := by
        by_cases h0 : (at8 c.f j).kind = 0
        · exact h0
        · exact absurd (List.mem_filter.2 ⟨List.mem_range.2 hj, by simpa using h0⟩) hj'
      exact (Val.ok_0 (vals_at a6 (by omega)) hk0).symm
  rw [hF, hA, hB, p2, p3, e, p1]
  rfl
/-- What was taken for a card is its bytes, and it may be. -/
theorem rdCard_took {st : Rd} (h : (rdCard' st).e = 0) : st.e = 0 ∧ (rdCard st).ok = true ∧ st.s = cardB (rdCard st) ++ (rdCard' st).s := by
  have hd := rdCard'_def st
  rw [hd] at h
  have hb : ∀ k ∈ bitsTo (cdM st) 8, k < f8z.length := fun k hk => bitsTo_bd hk
  obtain ⟨e4, s4, k4⟩ := rdFs_took false (bitsTo (cdM st) 8) (cdD st) f8z h (bitsTo_nodup _ _) hb
  obtain ⟨e3, s3, l3, m3⟩ := rdN_took2 (st := cdC st) (most := 255) e4
  obtain ⟨e2, s2, l2, m2⟩ := rdN_took2 (st := cdB st) (most := 65535) e3
  obtain ⟨e1, s1, l1, m1⟩ := rdAb_took (st := cdA st) (most := 1099511627776) e2
  obtain ⟨e0, s0, l0, m0⟩ := rdAb_took (st := st) (most := 1073741823) e1
  have hr : rdCard st = cdCard st := rdCard_ok (by rw [hd]; exact h)
  have hfo : vals (cdF st) = true := List.all_eq_true.2 (rdFv_ok false _ _ _ f8z_ok)
  have hok : (cdCard st).ok = true := by
    unfold Card.ok cdCard
    simp only [Bool.and_eq_true, decide_eq_true_eq]
    exact ⟨⟨⟨⟨⟨l0, by omega⟩, l1⟩, m1⟩, by omega⟩, hfo⟩
  have hM : (cdM st : Int) = rdN (cdC st) 255 := by unfold cdM; omega
  have hm : maskTo (cdF st) 8 = cdM st := by
    refine maskTo_of (by omega) fun j hj => ?_
    by_cases hjb : j ∈ bitsTo (cdM st) 8
    · exact ⟨fun _ => k4 rfl j hjb, fun _ => (bitsTo_mem.1 hjb).2⟩
    · have : at8 (cdF st) j = vz := by unfold cdF; rw [rdFv_far false _ _ _ j hb hjb, at8_f8z]
      rw [this]
      exact ⟨fun h' => absurd (bitsTo_mem.2 ⟨hj, h'⟩) hjb, fun h' => absurd rfl h'⟩
  refine ⟨e0, by rw [hr]; exact hok, ?_⟩
  rw [hr, cardB_ok hok, hd]
  show st.s = num (rdN st 1073741823) ++ num (rdN (cdA st) 1099511627776) ++ num ((rdN (cdB st) 65535).toNat : Int) ++ num (maskTo (cdF st) 8 : Nat) ++ bodyF (cdF st) (kindsTo (cdF st) 8) ++ _
  rw [← bitsTo_maskTo, hm, hM, Int.toNat_of_nonneg l2, s0]
  show _ ++ (cdA st).s = _
  rw [s1]
  show _ ++ (_ ++ (cdB st).s) = _
  rw [s2]
  show _ ++ (_ ++ (_ ++ (cdC st).s)) = _
  rw [s3]
  show _ ++ (_ ++ (_ ++ (_ ++ (cdD st).s))) = _
  rw [s4]
  show _ ++ (_ ++ (_ ++ (_ ++ (bodyF (cdF st) _ ++ _)))) = _
  simp
end Go.Proofs.YtldoedmclfbgpaaDoor
namespace Go.Proofs.YtldoedmclfbgpaaDoor
open Go.RowKit

/-- The place of a card, or -1. -/
def placeI (id : Int) : List Card → Nat → Int
  | [], _ => -1
  | c :: r, i => if c.id = id then (i : Int) else placeI id r (i + 1)
theorem placeI_has (id : Int) : ∀ (l : List Card) (i : Nat), decide (0 ≤ placeI id l i) = hasCard l id
  | [], _ => rfl
  | c :: r, i => by
    unfold placeI hasCard
    rw [List.any_cons]
    by_cases h : c.id = id
    · rw [if_pos h, decide_eq_true h]; simp
    · rw [if_neg h, decide_eq_false h, Bool.false_or]; exact placeI_has id r (i + 1)
theorem placeI_at (id : Int) {l : List Card} {k : Nat} (h : k < l.length) : placeI id (l.drop k) k = if l[k].id = id then (k : Int) else placeI id (l.drop (k + 1)) (k + 1) := by rw [drop_at h, placeI]
theorem cardsOk_at {next : Int} {l : List Card} {k : Nat} (h : k < l.length) (last : Int) : cardsOk next last (l.drop k) = (cardAt next last l[k] && cardsOk next l[k].id (l.drop (k + 1))) := by rw [drop_at h, cardsOk]
theorem deadsOk_at {next : Int} {cards : List Card} {l : List Dead} {k : Nat} (h : k < l.length) (last : Int) :
    deadsOk next cards (l.take k) last (l.drop k) = (deadAt next last l[k] && (!hasCard cards l[k].id && (!hasDead (l.take k) l[k].id && deadsOk next cards (l.take (k + 1)) l[k].seq (l.drop (k + 1))))) := by
  rw [drop_at h, deadsOk, List.take_succ_eq_append_getElem h]
theorem Card.ok_id {c : Card} (h : c.ok = true) : 1 ≤ c.id := by
  unfold Card.ok at h
  simp only [Bool.and_eq_true, decide_eq_true_eq] at h
  omega
/-- The dead rise: what is asked of the last holds of all. -/
theorem deadsOk_seqs (next : Int) (cards : List Card) : ∀ (l was : List Dead) (last : Int), deadsOk next cards was last l = true → ∀ x ∈ l, last ≤ x.seq ∧ x.seq ≤ (l.getLast?.map (·.seq)).getD last
  | [], _, _, _ => by intro x hx; cases hx
  | d :: r, was, last, h => by
    unfold deadsOk at h
    simp only [Bool.and_eq_true] at h
    obtain ⟨h1, -, -, h4⟩ := h
    unfold deadAt at h1
    rw [decide_eq_true_eq] at h1
    have ih := deadsOk_seqs next cards r (was ++ [d]) d.seq h4
    have hl : ((d :: r).getLast?.map (·.seq)).getD last = (r.getLast?.map (·.seq)).getD d.seq := by
      cases r with
      | nil => rfl
      | cons y r =>
        obtain ⟨z, hz⟩ : ∃ z, (y :: r).getLast? = some z := ⟨_, List.getLast?_eq_some_getLast (by simp)⟩
        simp [List.getLast?_cons_cons, hz]
    rw [hl]
    intro x hx
    rcases List.mem_cons.1 hx with rfl | hx
    · refine ⟨h1.2.2.2.2.1, ?_⟩
      cases r with
      | nil => simp
      | cons y r =>
        obtain ⟨z, hz⟩ : ∃ z, (y :: r).getLast? = some z := ⟨_, List.getLast?_eq_some_getLast (by simp)⟩
        have hm : z ∈ y :: r := by
          have := List.mem_of_getLast? hz
          exact this
        have := (ih z hm).1
        rw [hz]; simpa using this
    · have := ih x hx
      exact ⟨by have := h1.2.2.2.2.1; omega, this.2⟩
theorem lastSeq_all {next seq : Int} {cards : List Card} {l : List Dead} (h : deadsOk next cards [] 0 l = true) : decide (l = [] ∨ lastSeq l ≤ seq) = l.all fun d => decide (d.seq ≤ seq) := by
  rw [Bool.eq_iff_iff, decide_eq_true_eq, List.all_eq_true]
  simp only [decide_eq_true_eq]
  have hs := deadsOk_seqs next cards l [] 0 h
  constructor
  · intro e x hx
    rcases e with rfl | e
    · cases hx
    · have := (hs x hx).2
      unfold lastSeq at e
      omega
  · intro e
    cases l with
    | nil => exact .inl rfl
    | cons d r =>
      right
      obtain ⟨z, hz⟩ : ∃ z, (d :: r).getLast? = some z := ⟨_, List.getLast?_eq_some_getLast (by simp)⟩
      have := e z (List.mem_of_getLast? hz)
      unfold lastSeq
      rw [hz]
      simpa using this
/-! The dead, round by round, as the reference goes over them. -/
def deadGood (next : Int) (cards : List Card) (was : List Dead) (d : Dead) : Prop :=
  1 ≤ d.id ∧ d.id < next ∧ hasCard cards d.id = false ∧ 1 ≤ d.ver ∧ d.ver ≤ 1099511627776 ∧ 0 ≤ d.seq ∧ d.seq ≤ 1099511627776 ∧ ∀ x ∈ was, x.id ≠ d.id ∧ x.seq ≤ d.seq
structure SeqAt (was : List Dead) (last : Int) : Prop where
  pos : 0 ≤ last
  top : ∀ x ∈ was, x.seq ≤ last
  hit : last = 0 ∨ ∃ x ∈ was, x.seq = last
theorem SeqAt.start : SeqAt [] 0 := ⟨by omega, (fun x hx => by cases hx), .inl rfl⟩
theorem SeqAt.next {was : List Dead} {_last next : Int} {cards : List Card} {d : Dead} (h : deadGood next cards was d) : SeqAt (was ++ [d]) d.seq := by
  obtain ⟨-, -, -, -, -, h0, -, h1⟩ := h
  refine ⟨h0, fun x hx => ?_, .inr ⟨d, by simp, rfl⟩⟩
  rcases List.mem_append.1 hx with hx | hx
  · exact (h1 x hx).2
  · rw [List.mem_singleton.1 hx]; exact Int.le_refl _
theorem dead_fin {next last : Int} {cards : List Card} {was : List Dead} {d : Dead} {r z : Bool} (h : (deadAt next last d && (!hasCard cards d.id && (!hasDead was d.id && r))) = z) (hs : SeqAt was last) :
    (¬ deadGood next cards was d → z = false) ∧ (deadGood next cards was d → r = z) := by
  constructor
  · intro hn
    rw [← h]
    rw [Bool.and_eq_false_iff, Bool.and_eq_false_iff, Bool.and_eq_false_iff]
    by_cases a1 : deadAt next last d = true
    · by_cases a2 : hasCard cards d.id = true
      · exact .inr (.inl (by rw [a2]; rfl))
      · by_cases a3 : hasDead was d.id = true
        · exact .inr (.inr (.inl (by rw [a3]; rfl)))
        · exfalso
          apply hn
          unfold deadAt at a1
          rw [decide_eq_true_eq] at a1
          obtain ⟨b1, b2, b3, b4, b5, b6⟩ := a1
          have := hs.pos
          refine ⟨b1, b2, by simpa using a2, b3, b4, by omega, b6, fun x hx => ⟨fun e => a3 ?_, by have := hs.top x hx; omega⟩⟩
          unfold hasDead
          exact List.any_eq_true.2 ⟨x, hx, by simpa using e⟩
    · exact .inl (by simpa using a1)
  · rintro ⟨b1, b2, b3, b4, b5, b6, b7, b8⟩
    have a1 : deadAt next last d = true := by
      unfold deadAt
      rw [decide_eq_true_eq]
      refine ⟨b1, b2, b4, b5, ?_, b7⟩
      rcases hs.hit with e | ⟨x, hx, e⟩
      · omega
      · have := (b8 x hx).2; omega
    have a3 : hasDead was d.id = false := by
      unfold hasDead
      rw [List.any_eq_false]
      intro x hx
      simpa using (b8 x hx).1
    rw [a1, b3, a3] at h
    simpa using h
/-- What the program asks of a dead card. -/
theorem dead_fin' {next last : Int} {cards : List Card} {was : List Dead} {d : Dead} {r z : Bool} (h : (deadAt next last d && (!hasCard cards d.id && (!hasDead was d.id && r))) = z) :
    (deadAt next last d = false → z = false) ∧ (hasCard cards d.id = true → z = false) ∧ (hasDead was d.id = true → z = false) ∧ (deadAt next last d = true → hasCard cards d.id = false → hasDead was d.id = false → r = z) := by
  refine ⟨fun e => ?_, fun e => ?_, fun e => ?_, fun e1 e2 e3 => ?_⟩
  · rw [e] at h; simpa using h.symm
  · rw [e] at h; simpa using h.symm
  · rw [e] at h; simpa using h.symm
  · rw [e1, e2, e3] at h; simpa using h
theorem lastSeq_at {l : List Dead} (h : 0 < l.length) : lastSeq l = (l[l.length - 1]'(by omega)).seq := by
  unfold lastSeq
  rw [List.getLast?_eq_getElem?, List.getElem?_eq_getElem (by omega)]
  rfl
/-! What a look for a card answers. -/
def getE (cards : List Card) (dead : List Dead) (id : Int) : Int := if hasCard cards id then 0 else if hasDead dead id then 9 else 6
/-! The parts of a book that may be. -/
theorem ok_shelf {b : Book} (h : shelfOk b.next b.cards b.dead = false) : b.ok = false := by unfold Book.ok; rw [h]; rfl
theorem ok_seq {b : Book} (h : ¬ (0 ≤ b.seq ∧ b.seq ≤ 1099511627776)) : b.ok = false := by unfold Book.ok; rw [decide_eq_false h]; simp
theorem ok_grps {b : Book} (h : grpsOk (-1) b.groups = false) : b.ok = false := by unfold Book.ok; rw [h]; simp
theorem ok_last {b : Book} (h : ¬ (b.dead = [] ∨ lastSeq b.dead ≤ b.seq)) : b.ok = false := by unfold Book.ok; rw [decide_eq_false h]; simp
theorem ok_rest {b : Book} (h1 : shelfOk b.next b.cards b.dead = true) (h2 : 0 ≤ b.seq ∧ b.seq ≤ 1099511627776) (h3 : grpsOk (-1) b.groups = true) (h4 : b.dead = [] ∨ lastSeq b.dead ≤ b.seq) : (b.groups.all fun g => memOk b.cards g.mem) = b.ok := by
  unfold Book.ok
  rw [h1, decide_eq_true h2, h3, decide_eq_true h4]
  simp
end Go.Proofs.YtldoedmclfbgpaaDoor
namespace Go.Proofs.YtldoedmclfbgpaaDoor
open Go.RowKit

/-- So many, one behind the other; none, if one fails. -/
def rdL {α : Type} (one : Rd → α) (one' : Rd → Rd) : Nat → Rd → List α → List α × Rd
  | 0, st, acc => (acc, st)
  | n + 1, st, acc => if (one' st).e = 0 then rdL one one' n (one' st) (acc ++ [one st]) else ([], one' st)
section
variable {α : Type} {one : Rd → α} {one' : Rd → Rd}
theorem rdL_ok {n : Nat} {st : Rd} {acc : List α} (h : (one' st).e = 0) : rdL one one' (n + 1) st acc = rdL one one' n (one' st) (acc ++ [one st]) := by rw [rdL, if_pos h]
theorem rdL_bad {n : Nat} {st : Rd} {acc : List α} (h : (one' st).e ≠ 0) : rdL one one' (n + 1) st acc = ([], one' st) := by rw [rdL, if_neg h]
theorem rdL_put {B : α → List UInt8} : ∀ (l : List α) (r : List UInt8) (acc : List α), (∀ x ∈ l, ∀ r, one ⟨B x ++ r, 0⟩ = x ∧ one' ⟨B x ++ r, 0⟩ = ⟨r, 0⟩) → rdL one one' l.length ⟨l.flatMap B ++ r, 0⟩ acc = (acc ++ l, ⟨r, 0⟩)
  | [], r, acc, _ => by simp [rdL]
  | x :: l, r, acc, h => by
    obtain ⟨h1, h2⟩ := h x (List.mem_cons_self ..) (l.flatMap B ++ r)
    rw [List.flatMap_cons, List.append_assoc, List.length_cons, rdL_ok (by rw [h2]), h1, h2, rdL_put l r _ (fun y hy => h y (List.mem_cons_of_mem _ hy))]
    simp
theorem rdL_took {B : α → List UInt8} (took : ∀ st, (one' st).e = 0 → st.e = 0 ∧ st.s = B (one st) ++ (one' st).s) : ∀ (n : Nat) (st : Rd) (acc : List α), (rdL one one' n st acc).2.e = 0 →
    st.e = 0 ∧ ∃ l, (rdL one one' n st acc).1 = acc ++ l ∧ l.length = n ∧ st.s = l.flatMap B ++ (rdL one one' n st acc).2.s
  | 0, st, acc, h => ⟨h, [], by simp [rdL], rfl, by simp [rdL]⟩
  | n + 1, st, acc, h => by
    by_cases he : (one' st).e = 0
    · rw [rdL_ok he] at h ⊢
      obtain ⟨t1, t2⟩ := took st he
      obtain ⟨-, l, h2, h3, h4⟩ := rdL_took took n _ _ h
      exact ⟨t1, one st :: l, by rw [h2]; simp, by simp [h3], by rw [List.flatMap_cons, List.append_assoc, ← h4]; exact t2⟩
    · rw [rdL_bad he] at h
      exact absurd h he
theorem rdL_len (len : ∀ st, (one' st).s.length ≤ st.s.length) : ∀ (n : Nat) (st : Rd) (acc : List α), (rdL one one' n st acc).2.s.length ≤ st.s.length
  | 0, st, acc => by simp [rdL]
  | n + 1, st, acc => by
    have := len st
    by_cases he : (one' st).e = 0
    · rw [rdL_ok he]; have := rdL_len len n (one' st) (acc ++ [one st]); omega
    · rw [rdL_bad he]; exact this
theorem rdL_count : ∀ (n : Nat) (st : Rd) (acc : List α), (rdL one one' n st acc).1.length ≤ acc.length + n
  | 0, st, acc => by simp [rdL]
  | n + 1, st, acc => by
    by_cases he : (one' st).e = 0
    · rw [rdL_ok he]; have := rdL_count n (one' st) (acc ++ [one st]); rw [List.length_append] at this; simp at this; omega
    · rw [rdL_bad he]; simp
theorem rdL_all {Q : α → Prop} (hone : ∀ st, Q (one st)) : ∀ (n : Nat) (st : Rd) (acc : List α), (∀ x ∈ acc, Q x) → ∀ x ∈ (rdL one one' n st acc).1, Q x
  | 0, st, acc, h => by simpa [rdL] using h
  | n + 1, st, acc, h => by
    by_cases he : (one' st).e = 0
    · rw [rdL_ok he]
      exact rdL_all hone n _ _ (fun x hx => by
        rcases List.mem_append.1 hx with hx | hx
        · exact h x hx
        · rw [List.mem_singleton.1 hx]; exact hone st)
    · rw [rdL_bad he]; intro x hx; cases hx
end
/-! A dead card, a member, a group. -/
def rdDead (st : Rd) : Dead := ⟨rdN st 1099511627776, rdN (rdN' st 1099511627776) 1099511627776, rdN (rdN' (rdN' st 1099511627776) 1099511627776) 1099511627776⟩
def rdDead' (st : Rd) : Rd := rdN' (rdN' (rdN' st 1099511627776) 1099511627776) 1099511627776
def rdMem (st : Rd) : Int := rdN st 1073741824
def rdMem' (st : Rd) : Rd := rdN' st 1073741824
def grS (st : Rd) : Rd := rdN' (rdN' st 15) 48
def grN (st : Rd) : Nat := (rdN (rdN' st 15) 48).toNat
def rdGrp (st : Rd) : Grp := ⟨rdN st 15, (rdL rdMem rdMem' (grN st) (grS st) []).1⟩
def rdGrp' (st : Rd) : Rd := (rdL rdMem rdMem' (grN st) (grS st) []).2
def rdCQ (st : Rd) : CQ := ⟨rdCard st, rdCard_len st⟩
theorem rdDead_took (st : Rd) (h : (rdDead' st).e = 0) : st.e = 0 ∧ st.s = deadB (rdDead st) ++ (rdDead' st).s := by
  unfold rdDead' at h
  obtain ⟨h1, h2, -, -⟩ := rdN_took2 h
  obtain ⟨h3, h4, -, -⟩ := rdN_took2 h1
  obtain ⟨h5, h6, -, -⟩ := rdN_took2 h3
  refine ⟨h5, ?_⟩
  unfold deadB rdDead rdDead'
  simp only [List.append_assoc]
  rw [← h2, ← h4]
  exact h6
theorem rdMem_took (st : Rd) (h : (rdMem' st).e = 0) : st.e = 0 ∧ st.s = num (rdMem st) ++ (rdMem' st).s := by
  obtain ⟨h1, h2, -, -⟩ := rdN_took2 h
  exact ⟨h1, h2⟩
theorem rdGrp_took (st : Rd) (h : (rdGrp' st).e = 0) : st.e = 0 ∧ st.s = grpB (rdGrp st) ++ (rdGrp' st).s := by
  unfold rdGrp' at h
  obtain ⟨h1, l, h2, h3, h4⟩ := rdL_took rdMem_took _ _ _ h
  unfold grS at h1
  obtain ⟨h5, h6, h7, -⟩ := rdN_took2 h1
  obtain ⟨h8, h9, -, -⟩ := rdN_took2 h5
  refine ⟨h8, ?_⟩
  rw [List.nil_append] at h2
  unfold grpB rdGrp rdGrp'
  simp only [h2, List.append_assoc]
  have hl : (l.length : Int) = rdN (rdN' st 15) 48 := by rw [h3]; unfold grN; omega
  rw [hl, ← h4]
  show st.s = num (rdN st 15) ++ (num (rdN (rdN' st 15) 48) ++ (grS st).s)
  unfold grS
  rw [← h6]
  exact h9
theorem rdCQ_took (st : Rd) (h : (rdCard' st).e = 0) : st.e = 0 ∧ st.s = cardB (rdCQ st).c ++ (rdCard' st).s := by
  obtain ⟨h1, -, h2⟩ := rdCard_took h
  exact ⟨h1, h2⟩
/-! What was put is read. -/
theorem rdDead_put {d : Dead} (h : 0 ≤ d.id ∧ d.id ≤ 1099511627776 ∧ 0 ≤ d.ver ∧ d.ver ≤ 1099511627776 ∧ 0 ≤ d.seq ∧ d.seq ≤ 1099511627776) (r : List UInt8) : rdDead ⟨deadB d ++ r, 0⟩ = d ∧ rdDead' ⟨deadB d ++ r, 0⟩ = ⟨r, 0⟩ := by
  obtain ⟨h1, h2, h3, h4, h5, h6⟩ := h
  unfold deadB rdDead rdDead'
  simp only [List.append_assoc]
  obtain ⟨a1, a2⟩ := rdN_num (num d.ver ++ (num d.seq ++ r)) h1 h2 (most := 1099511627776) h2
  obtain ⟨b1, b2⟩ := rdN_num (num d.seq ++ r) h3 h4 (most := 1099511627776) h4
  obtain ⟨c1, c2⟩ := rdN_num r h5 h6 (most := 1099511627776) h6
  rw [a1, a2, b1, b2, c1, c2]
  exact ⟨rfl, rfl⟩
theorem rdMem_put {x : Int} (h0 : 0 ≤ x) (h : x ≤ 1073741824) (r : List UInt8) : rdMem ⟨num x ++ r, 0⟩ = x ∧ rdMem' ⟨num x ++ r, 0⟩ = ⟨r, 0⟩ := rdN_num r h0 (by omega) h
theorem rdGrp_put {g : Grp} (h0 : 0 ≤ g.no) (h1 : g.no ≤ 15) (h2 : g.mem.length ≤ 48) (h3 : ∀ x ∈ g.mem, 0 ≤ x ∧ x ≤ 1073741824) (r : List UInt8) : rdGrp ⟨grpB g ++ r, 0⟩ = g ∧ rdGrp' ⟨grpB g ++ r, 0⟩ = ⟨r, 0⟩ := by
  have hs : grpB g ++ r = num g.no ++ (num g.mem.length ++ (g.mem.flatMap num ++ r)) := by unfold grpB; simp
  rw [hs]
  obtain ⟨a1, a2⟩ := rdN_num (num g.mem.length ++ (g.mem.flatMap num ++ r)) h0 (by omega) (most := 15) h1
  obtain ⟨b1, b2⟩ := rdN_num (n := (g.mem.length : Int)) (g.mem.flatMap num ++ r) (by omega) (by omega) (most := 48) (by omega)
  have hp := rdL_put (one := rdMem) (one' := rdMem') (B := num) g.mem r [] (fun x hx r => rdMem_put (h3 x hx).1 (h3 x hx).2 r)
  unfold rdGrp rdGrp' grN grS
  rw [a1, a2, b1, b2, Int.toNat_natCast, hp]
  exact ⟨by simp, rfl⟩
/-! A book. -/
def bkA (st : Rd) : Rd := rdN' st 1099511627776
def bkB (st : Rd) : Rd := rdN' (bkA st) 1073741824
def bkC (st : Rd) : List CQ × Rd := rdL rdCQ rdCard' (rdN (bkB st) 48).toNat (rdN' (bkB st) 48) []
def bkD (st : Rd) : List Dead × Rd := rdL rdDead rdDead' (rdN (bkC st).2 40).toNat (rdN' (bkC st).2 40) []
def bkG (st : Rd) : List Grp × Rd := rdL rdGrp rdGrp' (rdN (bkD st).2 16).toNat (rdN' (bkD st).2 16) []
def bkBook (st : Rd) : Book := ⟨rdN st 1099511627776, rdN (bkA st) 1073741824, (bkC st).1.map CQ.c, (bkD st).1, (bkG st).1⟩
def bkz : Book := ⟨0, 0, [], [], []⟩
def rdBook' (st : Rd) : Rd := if (bkBook st).ok then (bkG st).2 else rdF (bkG st).2 3
def rdBook (st : Rd) : Book := if (rdBook' st).e = 0 then bkBook st else bkz
theorem flat_map {α β : Type} {f : α → β} {g : β → List UInt8} (l : List α) : (l.map f).flatMap g = l.flatMap fun x => g (f x) := by rw [List.flatMap_map]
theorem rdBook_took {st : Rd} (h : (rdBook' st).e = 0) : st.e = 0 ∧ (rdBook st).ok = true ∧ rdBook st = bkBook st ∧ rdBook' st = (bkG st).2 ∧ st.s = bookB (rdBook st) ++ (rdBook' st).s := by
  have hb : rdBook st = bkBook st := by unfold rdBook; rw [if_pos h]
  have hok : (bkBook st).ok = true := by
    cases hk : (bkBook st).ok
    · unfold rdBook' at h; rw [hk] at h; exact absurd h (rdF_bad _ (by decide))
    · rfl
  have hs : rdBook' st = (bkG st).2 := by unfold rdBook'; rw [hok]; rfl
  rw [hs] at h
  unfold bkG at h
  obtain ⟨g1, gl, g2, g3, g4⟩ := rdL_took rdGrp_took _ _ _ h
  obtain ⟨d1, d2, d3, -⟩ := rdN_took2 g1
  unfold bkD at d1
  obtain ⟨e1, el, e2, e3, e4⟩ := rdL_took rdDead_took _ _ _ d1
  obtain ⟨c1, c2, c3, -⟩ := rdN_took2 e1
  unfold bkC at c1
  obtain ⟨f1, fl, f2, f3, f4⟩ := rdL_took (B := fun x : CQ => cardB x.c) rdCQ_took _ _ _ c1
  obtain ⟨b1, b2, b3, -⟩ := rdN_took2 f1
  unfold bkB at b1
  obtain ⟨a1, a2, -, -⟩ := rdN_took2 b1
  unfold bkA at a1
  obtain ⟨z1, z2, -, -⟩ := rdN_took2 a1
  refine ⟨z1, by rw [hb]; exact hok, hb, hs, ?_⟩
  rw [hb, hs, bookB_ok hok]
  have hc1 : (bkC st).1 = fl := f2
  have hd1 : (bkD st).1 = el := e2
  have hg1 : (bkG st).1 = gl := g2
  have hcn : ((bkBook st).cards.length : Int) = rdN (bkB st) 48 := by show (((bkC st).1.map CQ.c).length : Int) = _; rw [List.length_map, hc1, f3]; omega
  have hdn : ((bkBook st).dead.length : Int) = rdN (bkC st).2 40 := by show ((bkD st).1.length : Int) = _; rw [hd1, e3]; omega
  have hgn : ((bkBook st).groups.length : Int) = rdN (bkD st).2 16 := by show ((bkG st).1.length : Int) = _; rw [hg1, g3]; omega
  rw [hcn, hdn, hgn]
  have hgs : (rdN' (bkD st).2 16).s = (bkBook st).groups.flatMap grpB ++ (bkG st).2.s := by show _ = (bkG st).1.flatMap grpB ++ _; rw [hg1]; exact g4
  have hds : (rdN' (bkC st).2 40).s = (bkBook st).dead.flatMap deadB ++ (bkD st).2.s := by show _ = (bkD st).1.flatMap deadB ++ _; rw [hd1]; exact e4
  have hcs : (rdN' (bkB st) 48).s = (bkBook st).cards.flatMap cardB ++ (bkC st).2.s := by show _ = ((bkC st).1.map CQ.c).flatMap cardB ++ _; rw [hc1, flat_map]; exact f4
  have e1' : (bkD st).2.s = num (rdN (bkD st).2 16) ++ (rdN' (bkD st).2 16).s := d2
  have e2' : (bkC st).2.s = num (rdN (bkC st).2 40) ++ (rdN' (bkC st).2 40).s := c2
  have e3' : (bkB st).s = num (rdN (bkB st) 48) ++ (rdN' (bkB st) 48).s := b2
  have e4' : (bkA st).s = num (rdN (bkA st) 1073741824) ++ (bkB st).s := a2
  have e5' : st.s = num (rdN st 1099511627776) ++ (bkA st).s := z2
  rw [e5', e4', e3', hcs, e2', hds, e1', hgs]
  show _ = (num (bkBook st).seq ++ (num (bkBook st).next ++ _)) ++ _
  simp only [List.append_assoc]
  rfl
/-! Members rise and are there: no more than there are cards. -/
theorem along_few : ∀ (n : Nat) (a b : List Int), a.length + b.length ≤ n → alongM a b = [] → a.length ≤ b.length
  | n, [], b, _, _ => by simp
  | n, x :: a, [], _, h => by rw [alongM_nilr] at h; cases h
  | 0, x :: a, y :: b, hn, _ => by simp at hn
  | n + 1, x :: a, y :: b, hn, h => by
    simp only [List.length_cons] at hn ⊢
    rcases (show x < y ∨ y < x ∨ x = y by omega) with e | e | e
    · rw [alongM_lt e] at h; cases h
    · rw [alongM_gt e] at h
      have := along_few n (x :: a) b (by simp only [List.length_cons]; omega) h
      simp only [List.length_cons] at this
      omega
    · rw [alongM_eq e] at h
      have := along_few n a b (by omega) h
      omega
theorem idsOk_bd : ∀ (l : List Int) (last : Int), 0 ≤ last → idsOk last l = true → ∀ x ∈ l, 0 ≤ x ∧ x ≤ 1073741824
  | [], _, _, _ => by intro x hx; cases hx
  | y :: l, last, h0, h => by
    obtain ⟨h1, h2, h3⟩ := idsOk_tail h
    intro x hx
    rcases List.mem_cons.1 hx with rfl | hx
    · omega
    · exact idsOk_bd l y (by omega) h3 x hx
theorem grpsOk_bd : ∀ (l : List Grp) (last : Int), grpsOk last l = true → (∀ g ∈ l, last < g.no ∧ g.no < 16 ∧ idsOk 0 g.mem = true) ∧ (-1 ≤ last → last ≤ 15 → (l.length : Int) ≤ 15 - last)
  | [], last, _ => ⟨(fun g hg => (by first | cases hg | simp at hg)), (fun _ h => by simp; omega)⟩
  | x :: l, last, h => by
    rw [grpsOk, Bool.and_eq_true] at h
    obtain ⟨h1, h2⟩ := h
    unfold grpAt at h1
    rw [Bool.and_eq_true, decide_eq_true_eq] at h1
    obtain ⟨i1, i2⟩ := grpsOk_bd l x.no h2
    refine ⟨fun g hg => ?_, fun h0 h15 => ?_⟩
    · rcases List.mem_cons.1 hg with rfl | hg
      · exact ⟨h1.1.1, h1.1.2, h1.2⟩
      · have := i1 g hg; exact ⟨by omega, this.2.1, this.2.2⟩
    · have := i2 (by omega) (by omega)
      rw [List.length_cons]
      push_cast
      omega
theorem cardsOk_all (next : Int) : ∀ (l : List Card) (last : Int), cardsOk next last l = true → ∀ c ∈ l, c.ok = true
  | [], _, _ => by intro c hc; cases hc
  | x :: l, last, h => by
    rw [cardsOk, Bool.and_eq_true] at h
    intro c hc
    rcases List.mem_cons.1 hc with rfl | hc
    · have := h.1; unfold cardAt at this; rw [Bool.and_eq_true] at this; exact this.1
    · exact cardsOk_all next l x.id h.2 c hc
theorem deadsOk_all (next : Int) (cards : List Card) (hn : next ≤ 1073741824) : ∀ (l was : List Dead) (last : Int), 0 ≤ last → deadsOk next cards was last l = true → ∀ d ∈ l, 0 ≤ d.id ∧ d.id ≤ 1099511627776 ∧ 0 ≤ d.ver ∧ d.ver ≤ 1099511627776 ∧ 0 ≤ d.seq ∧ d.seq ≤ 1099511627776
  | [], _, _, _, _ => by intro d hd; cases hd
  | x :: l, was, last, h0, h => by
    unfold deadsOk at h
    simp only [Bool.and_eq_true] at h
    obtain ⟨h1, -, -, h4⟩ := h
    unfold deadAt at h1
    rw [decide_eq_true_eq] at h1
    intro d hd
    rcases List.mem_cons.1 hd with rfl | hd
    · omega
    · exact deadsOk_all next cards hn l _ x.seq (by omega) h4 d hd
structure Book.good (b : Book) : Prop where
  seq : 0 ≤ b.seq ∧ b.seq ≤ 1099511627776
  next : 1 ≤ b.next ∧ b.next ≤ 1073741824
  nc : b.cards.length ≤ 48
  nd : b.dead.length ≤ 40
  ng : b.groups.length ≤ 16
  cards : ∀ c ∈ b.cards, c.ok = true
  dead : ∀ d ∈ b.dead, 0 ≤ d.id ∧ d.id ≤ 1099511627776 ∧ 0 ≤ d.ver ∧ d.ver ≤ 1099511627776 ∧ 0 ≤ d.seq ∧ d.seq ≤ 1099511627776
  groups : ∀ g ∈ b.groups, 0 ≤ g.no ∧ g.no ≤ 15 ∧ g.mem.length ≤ 48 ∧ ∀ x ∈ g.mem, 0 ≤ x ∧ x ≤ 1073741824
theorem Book.ok_good {b : Book} (h : b.ok = true) : b.good := by
  unfold Book.ok at h
  simp only [Bool.and_eq_true, decide_eq_true_eq] at h
  obtain ⟨h1, h2, h3, -, h5⟩ := h
  unfold shelfOk at h1
  simp only [Bool.and_eq_true, decide_eq_true_eq] at h1
  obtain ⟨⟨n1, n2, n3, n4⟩, h6, h7⟩ := h1
  obtain ⟨g1, g2⟩ := grpsOk_bd _ _ h3
  have g3 := g2 (by omega) (by omega)
  refine ⟨h2, ⟨n1, n2⟩, n3, n4, by omega, cardsOk_all _ _ _ h6, deadsOk_all _ _ n2 _ _ _ (by omega) h7, fun g hg => ?_⟩
  obtain ⟨a1, a2, a3⟩ := g1 g hg
  have hm := List.all_eq_true.1 h5 g hg
  rw [memOk_along h6 a3, decide_eq_true_eq] at hm
  have hf := along_few _ _ _ (Nat.le_refl _) hm
  rw [List.length_map] at hf
  exact ⟨by omega, by omega, by omega, idsOk_bd _ _ (by omega) a3⟩
theorem rdBook_put {seq next : Int} {cards : List CQ} {dead : List Dead} {groups : List Grp} (h : Book.ok ⟨seq, next, cards.map CQ.c, dead, groups⟩ = true) (r : List UInt8) :
    bkBook ⟨bookB ⟨seq, next, cards.map CQ.c, dead, groups⟩ ++ r, 0⟩ = ⟨seq, next, cards.map CQ.c, dead, groups⟩ ∧ rdBook' ⟨bookB ⟨seq, next, cards.map CQ.c, dead, groups⟩ ++ r, 0⟩ = ⟨r, 0⟩ := by
  obtain ⟨g1, g2, g3, g4, g5, g6, g7, g8⟩ := Book.ok_good h
  simp only at g1 g2 g3 g4 g5 g6 g7 g8
  rw [List.length_map] at g3
  obtain ⟨st, hst⟩ : ∃ st : Rd, st = ⟨bookB ⟨seq, next, cards.map CQ.c, dead, groups⟩ ++ r, 0⟩ := ⟨_, rfl⟩
  have hs : st = ⟨num seq ++ (num next ++ (num cards.length ++ (cards.flatMap (fun x => cardB x.c) ++ (num dead.length ++ (dead.flatMap deadB ++ (num groups.length ++ (groups.flatMap grpB ++ r))))))), 0⟩ := by
    rw [hst, bookB_ok h]; simp only [List.length_map, flat_map, List.append_assoc]
  rw [← hst]
  obtain ⟨a1, a2⟩ := rdN_num (num next ++ (num cards.length ++ (cards.flatMap (fun x => cardB x.c) ++ (num dead.length ++ (dead.flatMap deadB ++ (num groups.length ++ (groups.flatMap grpB ++ r))))))) g1.1 g1.2 (most := 1099511627776) g1.2
  obtain ⟨b1, b2⟩ := rdN_num (num cards.length ++ (cards.flatMap (fun x => cardB x.c) ++ (num dead.length ++ (dead.flatMap deadB ++ (num groups.length ++ (groups.flatMap grpB ++ r)))))) (n := next) (by omega) (by omega) (most := 1073741824) g2.2
  obtain ⟨c1, c2⟩ := rdN_num (n := (cards.length : Int)) (cards.flatMap (fun x => cardB x.c) ++ (num dead.length ++ (dead.flatMap deadB ++ (num groups.length ++ (groups.flatMap grpB ++ r))))) (by omega) (by omega) (most := 48) (by omega)
  have c3 := rdL_put (one := rdCQ) (one' := rdCard') (B := fun x : CQ => cardB x.c) cards (num dead.length ++ (dead.flatMap deadB ++ (num groups.length ++ (groups.flatMap grpB ++ r)))) [] (fun x hx r => by
    obtain ⟨p1, p2⟩ := rdCard_put (g6 x.c (List.mem_map.2 ⟨x, hx, rfl⟩)) x.wf r
    refine ⟨?_, p2⟩
    obtain ⟨c, wf⟩ := x
    unfold rdCQ
    congr 1)
  obtain ⟨d1, d2⟩ := rdN_num (n := (dead.length : Int)) (dead.flatMap deadB ++ (num groups.length ++ (groups.flatMap grpB ++ r))) (by omega) (by omega) (most := 40) (by omega)
  have d3 := rdL_put (one := rdDead) (one' := rdDead') (B := deadB) dead (num groups.length ++ (groups.flatMap grpB ++ r)) [] (fun x hx r => rdDead_put (g7 x hx) r)
  obtain ⟨e1, e2⟩ := rdN_num (n := (groups.length : Int)) (groups.flatMap grpB ++ r) (by omega) (by omega) (most := 16) (by omega)
  have e3 := rdL_put (one := rdGrp) (one' := rdGrp') (B := grpB) groups r [] (fun x hx r => by obtain ⟨q1, q2, q3, q4⟩ := g8 x hx; exact rdGrp_put q1 q2 q3 q4 r)
  have hA : bkA st = ⟨num next ++ (num cards.length ++ (cards.flatMap (fun x => cardB x.c) ++ (num dead.length ++ (dead.flatMap deadB ++ (num groups.length ++ (groups.flatMap grpB ++ r)))))), 0⟩ := by unfold bkA; rw [hs]; exact a2
  have hB : bkB st = ⟨num cards.length ++ (cards.flatMap (fun x => cardB x.c) ++ (num dead.length ++ (dead.flatMap deadB ++ (num groups.length ++ (groups.flatMap grpB ++ r))))), 0⟩ := by unfold bkB; rw [hA]; exact b2
  have hC : bkC st = (cards, ⟨num dead.length ++ (dead.flatMap deadB ++ (num groups.length ++ (groups.flatMap grpB ++ r))), 0⟩) := by unfold bkC; rw [hB, c1, c2, Int.toNat_natCast, c3]; rfl
  have hD : bkD st = (dead, ⟨num groups.length ++ (groups.flatMap grpB ++ r), 0⟩) := by unfold bkD; rw [hC]; simp only; rw [d1, d2, Int.toNat_natCast, d3]; rfl
  have hG : bkG st = (groups, ⟨r, 0⟩) := by unfold bkG; rw [hD]; simp only; rw [e1, e2, Int.toNat_natCast, e3]; rfl
  have hbk : bkBook st = ⟨seq, next, cards.map CQ.c, dead, groups⟩ := by
    unfold bkBook
    rw [hC, hD, hG, hA, b1]
    rw [hs, a1]
  refine ⟨hbk, ?_⟩
  unfold rdBook'
  rw [hbk, h, hG]
  rfl
end Go.Proofs.YtldoedmclfbgpaaDoor
namespace Go.Proofs.YtldoedmclfbgpaaDoor
open Go.RowKit

theorem idx8_bits (m : Nat) : idx8 m = ints (bitsTo m 8) := rfl

end Go.Proofs.YtldoedmclfbgpaaDoor
