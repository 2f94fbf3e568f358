/-
  Lemmas (walks and plain laws), in one text.
-/
import Derived.Test.YtiedkcijjfmhaaaGreatDoorSr1
import Derived.Test.YtiedkcijjfmhaaaGreatDoorSr2
import Derived.Test.YtiedkcijjfmhaaaGreatDoorSr3
import Derived.Test.YtiedkcijjfmhaaaGreatDoorSr13
import Derived.Test.YtiedkcijjfmhaaaGreatDoorSr14
import Derived.Test.YtiedkcijjfmhaaaGreatDoorSr15
import Derived.Test.YtiedkcijjfmhaaaGreatDoorSr16
import Derived.Test.YtiedkcijjfmhaaaGreatDoorSr17
import Derived.Test.YtiedkcijjfmhaaaGreatDoorSr19
import Derived.Test.YtiedkcijjfmhaaaGreatDoorSr20
import Derived.Test.YtiedkcijjfmhaaaGreatDoorSr21
import Derived.Laws.Tables
import Derived.Great.BuildSlice
namespace Go.Proofs.YtiedkcijjfmhaaaGreatDoor
open Go.RowKit

theorem strOpR : Str Tryz.prog 55 63 := ⟨⟨_, Tryz.underlying55, rfl⟩, by kernel_rfl⟩
theorem blk_two (w : World) (o : Obj) (t : TypeId) (cs : Array Value) : Blk ((w.alloc o).alloc (.cells cs t)) (w.heap.size + 1) cs := by
  have := Blk.new (w.alloc o) t cs
  simpa using this
structure XC (w w' : World) (o r : Deed) (q s : Where) (g : Nat) : Prop where
  below : Below w.heap.size w w'
  o : Blk w' w.heap.size (o.arr q)
  r : Blk w' g (r.arr s)
  hg : w.heap.size < g
section
variable {w w1 w2 : World} {o r r' : Deed} {q s s' : Where} {g : Nat}
theorem XC.step (c : XC w w1 o r q s g) (hb : Below w1.heap.size w1 w2) : XC w w2 o r q s g := ⟨c.below.trans (hb.mono c.below.size), c.o.below hb c.o.lt, c.r.below hb c.r.lt, c.hg⟩
theorem XC.put (c : XC w w1 o r q s g) (hk : Kept (some g) w1.heap.size w1 w2) (hb : Blk w2 g (r'.arr s')) : XC w w2 o r' q s' g :=
  ⟨c.below.trans (hk.oneB c.below.size (by have := c.hg; omega)), c.o.kept hk c.o.lt (fun e => by injection e with e; have := c.hg; omega), hb, c.hg⟩
theorem XC.set (c : XC w w1 o r q s g) (off : Nat) (v : Value) (e : (r.arr s).setIfInBounds off v = r'.arr s') : XC w (w1.setCell ⟨g, off, none⟩ v) o r' q s' g := c.put (kept_set w1 g off v) (e ▸ c.r.store off v)
end
end Go.Proofs.YtiedkcijjfmhaaaGreatDoor
namespace Go.Proofs.YtiedkcijjfmhaaaGreatDoor
open Go.RowKit

theorem stop_build {P : Program} {w : World} {ops : Array Oper} {rest : List Oper} {o : Oper} {a : Act} {Q : Exit → Act → World → Prop} (t : TypeId) (parts : Array (Nat × Operand)) (_ : o.op = .build t parts) (h : Stop (wpList P ops Q (o :: rest) a w)) : wpList P ops Q (o :: rest) a w := h
theorem wpList_buildD {P : Program} {w : World} {ops : Array Oper} {rest : List Oper} {o : Oper} {a : Act} {Q : Exit → Act → World → Prop} (hgd : o.guard = none) (t : TypeId) (parts : Array (Nat × Operand)) (ho : o.op = .build t parts) (ps : List (Nat × Value))
    (hp : (parts.toList.map fun (i, x) => (i, a.eval x)) = ps) (cells : Array Value) (hc : P.built t ps = some cells)
    (h : wpList P ops Q rest (a.put o.dst (.agg cells)) w) : wpList P ops Q (o :: rest) a w := by
  refine wpList_plain hgd fun K hK => ?_
  unfold Oper.wp execOp
  simp only [ho, Sem.run_bind, run_build w t _ cells (by rw [Array.toList_map, hp]; exact hc), Result.andThen_ok]
  exact hK _ _ h
def opPlace : Array (Nat × Nat) := #[(0, 1), (1, 1), (2, 1), (3, 1), (4, 29), (33, 1), (34, 1), (35, 26), (61, 1), (62, 1)]
theorem fill_one (pl : Nat → Option (Nat × Nat)) (cells : Array Value) (i off : Nat) (v : Value) (rest : List (Nat × Value)) (hp : pl i = some (off, 1)) (hv : v.cells = #[v]) (hs : off + 1 ≤ cells.size) : Instr.fill pl cells ((i, v) :: rest) = Instr.fill pl (cells.setIfInBounds off v) rest := by
  rw [Instr.fill, hp, hv]
  simp
  omega
theorem foldl_put : ∀ (vs : List Value) (cs : Array Value) (off k : Nat), (vs.zipIdx k).foldl (fun cs (x : Value × Nat) => cs.setIfInBounds (off + x.2) x.1) cs = putAt cs (off + k) vs
  | [], _, _, _ => rfl
  | v :: r, cs, off, k => by
    rw [List.zipIdx_cons, List.foldl_cons, foldl_put r, putAt]
    rfl
theorem fill_agg (pl : Nat → Option (Nat × Nat)) (cells : Array Value) (i off n : Nat) (E : Array Value) (rest : List (Nat × Value)) (hp : pl i = some (off, n)) (hn : E.size = n) (hs : off + n ≤ cells.size) : Instr.fill pl cells ((i, .agg E) :: rest) = Instr.fill pl (putAt cells off E.toList) rest := by
  subst hn
  rw [Instr.fill, hp]
  have hc : (Value.agg E).cells = E := rfl
  simp only [hc]
  rw [if_neg (by simp; omega)]
  congr 1
  have := foldl_put E.toList cells off 0
  rw [Nat.add_zero] at this
  rw [← this, ← Array.foldl_toList, Array.toList_zipIdx]
theorem built_fill (o : Deed) (q : Where) (hwf : o.wf) :
    Instr.fill (opPlace[·]?) (dz.arr wz) [(0, .int .i64 o.kind), (1, .int .i64 o.n), (2, .int .i64 o.dev), (3, .int .i64 o.id), (4, .agg o.e.arr), (5, .slice q.A o.f.length q.n), (6, .int .u32 o.mask), (7, .agg o.p.arr), (8, .slice q.K o.keep.length q.m), (9, .string (str o.text))] = some (o.arr q) := by
  have s0 : (dz.arr wz).size = 63 := Deed.arr_size dz_wf
  rw [fill_one _ _ 0 0 _ _ rfl rfl (by simp [s0])]
  rw [fill_one _ _ 1 1 _ _ rfl rfl (by simp [s0])]
  rw [fill_one _ _ 2 2 _ _ rfl rfl (by simp [s0])]
  rw [fill_one _ _ 3 3 _ _ rfl rfl (by simp [s0])]
  rw [fill_agg _ _ 4 4 29 _ _ rfl (by rw [Edit.arr_size, hwf.e]) (by simp [s0])]
  rw [fill_one _ _ 5 33 _ _ rfl rfl (by simp [putAt_size, s0])]
  rw [fill_one _ _ 6 34 _ _ rfl rfl (by simp [putAt_size, s0])]
  rw [fill_agg _ _ 7 35 26 _ _ rfl (by rw [Patch.arr_size, hwf.p]) (by simp [putAt_size, s0])]
  rw [fill_one _ _ 8 61 _ _ rfl rfl (by simp [putAt_size, s0])]
  rw [fill_one _ _ 9 62 _ _ rfl rfl (by simp [putAt_size, s0])]
  have e0 : (Deed.arr ⟨0, 0, 0, 0, ez, [], 0, pz, [], []⟩ wz).setIfInBounds 0 (.int .i64 o.kind) = Deed.arr ⟨o.kind, 0, 0, 0, ez, [], 0, pz, [], []⟩ wz := by have := Deed.setI (o := ⟨0, 0, 0, 0, ez, [], 0, pz, [], []⟩) (q := wz) ⟨rfl, rfl⟩ 0 (by omega) o.kind; simpa using this
  have e1 : (Deed.arr ⟨o.kind, 0, 0, 0, ez, [], 0, pz, [], []⟩ wz).setIfInBounds 1 (.int .i64 o.n) = Deed.arr ⟨o.kind, o.n, 0, 0, ez, [], 0, pz, [], []⟩ wz := by have := Deed.setI (o := ⟨o.kind, 0, 0, 0, ez, [], 0, pz, [], []⟩) (q := wz) ⟨rfl, rfl⟩ 1 (by omega) o.n; simpa using this
  have e2 : (Deed.arr ⟨o.kind, o.n, 0, 0, ez, [], 0, pz, [], []⟩ wz).setIfInBounds 2 (.int .i64 o.dev) = Deed.arr ⟨o.kind, o.n, o.dev, 0, ez, [], 0, pz, [], []⟩ wz := by have := Deed.setI (o := ⟨o.kind, o.n, 0, 0, ez, [], 0, pz, [], []⟩) (q := wz) ⟨rfl, rfl⟩ 2 (by omega) o.dev; simpa using this
  have e3 : (Deed.arr ⟨o.kind, o.n, o.dev, 0, ez, [], 0, pz, [], []⟩ wz).setIfInBounds 3 (.int .i64 o.id) = Deed.arr ⟨o.kind, o.n, o.dev, o.id, ez, [], 0, pz, [], []⟩ wz := by have := Deed.setI (o := ⟨o.kind, o.n, o.dev, 0, ez, [], 0, pz, [], []⟩) (q := wz) ⟨rfl, rfl⟩ 3 (by omega) o.id; simpa using this
  have e4 : putAt (Deed.arr ⟨o.kind, o.n, o.dev, o.id, ez, [], 0, pz, [], []⟩ wz) 4 o.e.arr.toList = Deed.arr ⟨o.kind, o.n, o.dev, o.id, o.e, [], 0, pz, [], []⟩ wz := Deed.putE (o := ⟨o.kind, o.n, o.dev, o.id, ez, [], 0, pz, [], []⟩) (q := wz) ⟨rfl, rfl⟩ o.e hwf.e
  have e5 : (Deed.arr ⟨o.kind, o.n, o.dev, o.id, o.e, [], 0, pz, [], []⟩ wz).setIfInBounds 33 (.slice q.A o.f.length q.n) = Deed.arr ⟨o.kind, o.n, o.dev, o.id, o.e, o.f, 0, pz, [], []⟩ ⟨q.A, q.n, none, 0⟩ := Deed.setF (o := ⟨o.kind, o.n, o.dev, o.id, o.e, [], 0, pz, [], []⟩) (q := wz) ⟨hwf.e, rfl⟩ q.A o.f q.n
  have e6 : (Deed.arr ⟨o.kind, o.n, o.dev, o.id, o.e, o.f, 0, pz, [], []⟩ ⟨q.A, q.n, none, 0⟩).setIfInBounds 34 (.int .u32 o.mask) = Deed.arr ⟨o.kind, o.n, o.dev, o.id, o.e, o.f, o.mask, pz, [], []⟩ ⟨q.A, q.n, none, 0⟩ := Deed.setM (o := ⟨o.kind, o.n, o.dev, o.id, o.e, o.f, 0, pz, [], []⟩) (q := ⟨q.A, q.n, none, 0⟩) ⟨hwf.e, rfl⟩ o.mask
  have e7 : putAt (Deed.arr ⟨o.kind, o.n, o.dev, o.id, o.e, o.f, o.mask, pz, [], []⟩ ⟨q.A, q.n, none, 0⟩) 35 o.p.arr.toList = Deed.arr ⟨o.kind, o.n, o.dev, o.id, o.e, o.f, o.mask, o.p, [], []⟩ ⟨q.A, q.n, none, 0⟩ := Deed.putP (o := ⟨o.kind, o.n, o.dev, o.id, o.e, o.f, o.mask, pz, [], []⟩) (q := ⟨q.A, q.n, none, 0⟩) ⟨hwf.e, rfl⟩ o.p hwf.p
  have e8 : (Deed.arr ⟨o.kind, o.n, o.dev, o.id, o.e, o.f, o.mask, o.p, [], []⟩ ⟨q.A, q.n, none, 0⟩).setIfInBounds 61 (.slice q.K o.keep.length q.m) = Deed.arr ⟨o.kind, o.n, o.dev, o.id, o.e, o.f, o.mask, o.p, o.keep, []⟩ ⟨q.A, q.n, q.K, q.m⟩ := Deed.setK (o := ⟨o.kind, o.n, o.dev, o.id, o.e, o.f, o.mask, o.p, [], []⟩) (q := ⟨q.A, q.n, none, 0⟩) ⟨hwf.e, hwf.p⟩ q.K o.keep q.m
  have e9 : (Deed.arr ⟨o.kind, o.n, o.dev, o.id, o.e, o.f, o.mask, o.p, o.keep, []⟩ ⟨q.A, q.n, q.K, q.m⟩).setIfInBounds 62 (.string (str o.text)) = Deed.arr ⟨o.kind, o.n, o.dev, o.id, o.e, o.f, o.mask, o.p, o.keep, o.text⟩ ⟨q.A, q.n, q.K, q.m⟩ := Deed.setT (o := ⟨o.kind, o.n, o.dev, o.id, o.e, o.f, o.mask, o.p, o.keep, []⟩) (q := ⟨q.A, q.n, q.K, q.m⟩) ⟨hwf.e, hwf.p⟩ o.text
  have ed : dz.arr wz = Deed.arr ⟨0, 0, 0, 0, ez, [], 0, pz, [], []⟩ wz := rfl
  rw [ed, e0, e1, e2, e3, e4, e5, e6, e7, e8, e9]
  rfl
theorem built_From (ps : List (Nat × Value)) : Tryz.prog.built 55 ps = Instr.fill (opPlace[·]?) #[.int .i64 0, .int .i64 0, .int .i64 0, .int .i64 0, .int .i64 0, .int .i64 0, .int .i64 0, .int .u32 0, .int .u32 0, .int .i64 0, .int .i64 0, .string (str []), .int .i64 0, .int .i64 0, .string (str []), .int .i64 0, .int .i64 0, .string (str []), .int .i64 0, .int .i64 0, .string (str []), .int .i64 0, .int .i64 0, .string (str []), .int .i64 0, .int .i64 0, .string (str []), .int .i64 0, .int .i64 0, .string (str []), .int .i64 0, .int .i64 0, .string (str []), .slice none 0 0, .int .u32 0, .int .u32 0, .int .u32 0, .int .i64 0, .int .i64 0, .string (str []), .int .i64 0, .int .i64 0, .string (str []), .int .i64 0, .int .i64 0, .string (str []), .int .i64 0, .int .i64 0, .string (str []), .int .i64 0, .int .i64 0, .string (str []), .int .i64 0, .int .i64 0, .string (str []), .int .i64 0, .int .i64 0, .string (str []), .int .i64 0, .int .i64 0, .string (str []), .slice none 0 0, .string (str [])] ps := by kernel_rfl
set_option maxHeartbeats 4000000 in
set_option maxRecDepth 10000 in
theorem c_law47_From (x : DQ) (w : World) : Calls Tryz.prog 18 #[.agg (x.o.arr x.q)] w (RetV w (.agg (x.o.arr x.q))) := by
  obtain ⟨o, q, hwf⟩ := x
  show Calls _ _ #[.agg (o.arr q)] w (RetV w (.agg (o.arr q)))
  have HF := Lib.hid hwf
  have B0 := Lib.hid ((At.new w 45 (o.arr q)).alloc (.cells #[.int .i64 0, .int .i64 0, .int .i64 0, .int .i64 0, .int .i64 0, .int .i64 0, .int .i64 0, .int .u32 0, .int .u32 0, .int .i64 0, .int .i64 0, .string (str []), .int .i64 0, .int .i64 0, .string (str []), .int .i64 0, .int .i64 0, .string (str []), .int .i64 0, .int .i64 0, .string (str []), .int .i64 0, .int .i64 0, .string (str []), .int .i64 0, .int .i64 0, .string (str []), .int .i64 0, .int .i64 0, .string (str []), .int .i64 0, .int .i64 0, .string (str []), .slice none 0 0, .int .u32 0, .int .u32 0, .int .u32 0, .int .i64 0, .int .i64 0, .string (str []), .int .i64 0, .int .i64 0, .string (str []), .int .i64 0, .int .i64 0, .string (str []), .int .i64 0, .int .i64 0, .string (str []), .int .i64 0, .int .i64 0, .string (str []), .int .i64 0, .int .i64 0, .string (str []), .int .i64 0, .int .i64 0, .string (str []), .int .i64 0, .int .i64 0, .string (str []), .slice none 0 0, .string (str [])] 55))
  have HB := Lib.hid (built_fill o q hwf)
  obtain ⟨p0, p1, p2, p3, p4, p5, p6, p7⟩ := dcs hwf B0.out.2
  clear hwf
  go_enter Tryz.func18, Tryz.ntmps18
  go_wp2_with (with_reducible refine slG 41 (.tmp 11) rfl ?_)
  refine Stop.mk (wlG (by rfl) _ _ rfl w.heap.size 4 rfl o.e.arr (deed_edit HF.out B0.out.2) strE (by rw [Edit.arr_size, HF.out.e]) ?_)
  go_wp2_with (with_reducible refine slG 39 (.tmp 17) rfl ?_)
  refine Stop.mk (wlG (by rfl) _ _ rfl w.heap.size 35 rfl o.p.arr (deed_patch HF.out B0.out.2) strP (by rw [Patch.arr_size, HF.out.p]) ?_)
  go_wp2_with (with_reducible refine stop_build 55 _ rfl ?_)
  refine Stop.mk (wpList_buildD rfl _ _ rfl [(0, .int .i64 o.kind), (1, .int .i64 o.n), (2, .int .i64 o.dev), (3, .int .i64 o.id), (4, .agg o.e.arr), (5, .slice q.A o.f.length q.n), (6, .int .u32 o.mask), (7, .agg o.p.arr), (8, .slice q.K o.keep.length q.m), (9, .string (str o.text))] (by rfl) (o.arr q) ((built_From _).trans (by rw [← dz_arr0]; exact HB.out)) ?_)
  go_wp2_with (with_reducible refine stS 55 (.tmp 2) (.tmp 23) rfl rfl ?_)
  refine Stop.mk (wsB rfl _ _ _ rfl (w.heap.size + 1) _ (by first | rfl | simp) rfl _ (blk_two _ _ _ _) strOpR (Deed.arr_size HF.out) (by rw [Deed.arr_size HF.out]; rfl) (Deed.arr_ones HF.out) ?_)
  intro w3 hb3 hk3
  have hbw := Lib.hid (B0.out.1.trans (hk3.oneB (by simp; omega) (by omega)))
  clear hk3 p0 p1 p2 p3 p4 p5 p6 p7
  go_wp2_with (fail)
  exact bodyPost_ret (results_B rfl (by first | rfl | simp) hb3 strOpR (Deed.arr_size HF.out)) rfl ⟨rfl, hbw.out⟩
end Go.Proofs.YtiedkcijjfmhaaaGreatDoor
namespace Go.Proofs.YtiedkcijjfmhaaaGreatDoor
open Go.RowKit

theorem putAt_full (cs : Array Value) (vs : List Value) (h : cs.size = vs.length) : putAt cs 0 vs = vs.toArray := by
  apply Array.ext_getElem?
  intro i
  have hr : vs.toArray[i]? = vs[i]? := by simp
  rw [hr]
  by_cases hi : i < vs.length
  · have := putAt_in vs cs 0 i (by omega) hi
    rwa [Nat.zero_add] at this
  · rw [Array.getElem?_eq_none (by rw [putAt_size]; omega), List.getElem?_eq_none (by omega)]
theorem stop_lit {P : Program} {w : World} {ops : Array Oper} {rest : List Oper} {o : Oper} {a : Act} {Q : Exit → Act → World → Prop} (t : TypeId) (parts : Array (Nat × Operand)) (_ : o.op = .buildSlice t 1 parts) (h : Stop (wpList P ops Q (o :: rest) a w)) : wpList P ops Q (o :: rest) a w := h
theorem wpList_lit1 {P : Program} {w : World} {ops : Array Oper} {rest : List Oper} {o : Oper} {a : Act} {Q : Exit → Act → World → Prop} (hg : o.guard = none) (t e : TypeId) (x : Operand) (ho : o.op = .buildSlice t 1 #[(0, x)]) {n bytes : Nat} (I : Elem P t e n bytes) (hn : n ≤ 16777216) (E : Array Value)
    (hx : a.eval x = .agg E) (hE : E.size = n) (h : wpList P ops Q rest (a.put o.dst (.slice (some ⟨w.heap.size, 0, none⟩) 1 1)) (w.alloc (.cells E e))) : wpList P ops Q (o :: rest) a w := by
  obtain ⟨i, z, h1, h2, h3, h4, h5⟩ := I.info
  have hp := I.pos
  refine wpList_buildSlice hg t e 1 _ ho E i z I.under h1 h2 (by omega) (by omega) ?_ h
  have e0 : ((#[(0, x)] : Array (Nat × Operand)).map fun (i, x) => (i, a.eval x)).toList = [(0, .agg E)] := by simp [hx]
  rw [e0, fill_agg _ _ 0 0 n E [] (by simp [h3]) hE (by simp; omega)]
  rw [putAt_full _ _ (by simp; omega)]
  simp [Instr.fill]
end Go.Proofs.YtiedkcijjfmhaaaGreatDoor
namespace Go.Proofs.YtiedkcijjfmhaaaGreatDoor
open Go.RowKit

theorem elemOp : Elem Tryz.prog 23 45 63 656 := Elem.mk' (z := .agg (dz.arr wz)) Tryz.underlying23 (by rw [dz_arr0]; kernel_rfl) (Deed.arr_size dz_wf) (by omega) (by omega)
end Go.Proofs.YtiedkcijjfmhaaaGreatDoor
namespace Go.Proofs.YtiedkcijjfmhaaaGreatDoor
open Go.RowKit

/-- Few bytes, as far as acts may be. -/
def Few (l : List Deed) : Prop := ∀ k, k ≤ l.length → (∀ x ∈ l.take k, x.ok = true) → ((l.take k).flatMap deedB).length ≤ 790000
theorem few_of {l : List Deed} (h : l.length ≤ 120) : Few l := by
  intro k hk ho
  have := deeds_len ho
  rw [List.length_take] at this
  omega
theorem mayAll_long {l : List Deed} (h : 400 < l.length) : Deed.mayAll l = false := by
  unfold Deed.mayAll
  rw [decide_eq_false (by omega)]
  rfl
theorem mayAll_of {l : List Deed} (h : l.length ≤ 400) (ho : ∀ x ∈ l, x.ok = true) : Deed.mayAll l = true := by
  unfold Deed.mayAll
  rw [decide_eq_true h, Bool.true_and, List.all_eq_true]
  exact ho
theorem deeds_flat (l : List DQ) {k : Nat} (hk : k < l.length) : ((deeds l).take (k + 1)).flatMap deedB = ((deeds l).take k).flatMap deedB ++ deedB l[k].o := by
  rw [deeds_take l hk, List.flatMap_append, List.flatMap_cons, List.flatMap_nil, List.append_nil]
theorem deeds_oks (l : List DQ) {k : Nat} (hk : k < l.length) (h : ∀ x ∈ (deeds l).take k, x.ok = true) (hx : l[k].o.ok = true) : ∀ x ∈ (deeds l).take (k + 1), x.ok = true := by
  rw [deeds_take l hk]
  intro x hm
  rcases List.mem_append.1 hm with hm | hm
  · exact h x hm
  · rw [List.mem_singleton.1 hm]; exact hx
theorem deeds_all {l : List DQ} : (deeds l).take l.length = deeds l := List.take_of_length_le (by rw [deeds_len']; exact Nat.le_refl _)
/-- An act that may be has a short text and few numbers. -/
theorem ok_short {o : Deed} (h : o.ok = true) : o.text.length ≤ 4096 ∧ o.keep.length ≤ 40 := by
  obtain ⟨hm, ho⟩ := Deed.ok_iff.1 h
  obtain ⟨hk, -, -, -, -, -, mK, mT⟩ := Deed.may_iff.1 hm
  rw [← ho]
  unfold Deed.only
  constructor
  · simp only
    split
    · rename_i e; exact mT e
    · simp
  · simp only
    split
    · rename_i e; exact (mK e).1
    · simp
set_option maxHeartbeats 8000000 in
set_option maxRecDepth 10000 in
theorem c_script_EncodeD (l : List DQ) (A : Option Addr) (c : Nat) (w : World) (h : InQ w A c l) (hD : ∀ x ∈ l, (x.o.kind = 4 ∨ x.o.kind = 6) ∧ 0 ≤ x.o.dev ∧ x.o.dev ≤ 5) (hT : Tab w) (hf : l.length ≤ 400 → Few (deeds l)) : Calls Tryz.prog 8 #[.slice A l.length c] w (RetEnc w (deeds l)) := by
  have hL := h.inn.1
  have hC := h.inn.2.1
  have HH := Lib.hid h
  have HT := Lib.hid hT
  have HDD := Lib.hid hD
  by_cases hlen : 400 < l.length
  · have hbad := mayAll_long (l := deeds l) (by rw [deeds_len']; exact hlen)
    have HB := Lib.hid (enc_bad hbad)
    have HM := Lib.hid hbad
    have d1 : decide (400 < (l.length : Int)) = true := by simp; omega
    clear h hT hf hD hbad
    go_enter Tryz.func8, Tryz.ntmps8
    go_wp2_with (fail)
    go_ret2
    exact ⟨by rw [HB.out, HM.out]; rfl, Below.refl _ _⟩
  have FW := Lib.hid (hf (by omega))
  have d1 : decide (400 < (l.length : Int)) = false := by simp; omega
  have hn0 := (num_len (l.length : Int)).2
  clear h hT hf hD
  go_enter Tryz.func8, Tryz.ntmps8
  go_wp2_with (fail)
  refine (c_octet_Num [] none 0 (l.length : Int) _ (In.nil (by omega))).mono ?_
  rintro e w1 ⟨v1, rfl, own1, hb1⟩
  obtain ⟨l0, hl0⟩ : ∃ x, x = [] ++ num (l.length : Int) := ⟨_, rfl⟩
  rw [← hl0] at own1
  have hl0n : l0.length ≤ 7 := by rw [hl0, List.nil_append]; exact hn0
  have HL0 := Lib.hid (show l0 = num (l.length : Int) by rw [hl0]; rfl)
  obtain ⟨A1, c1, rfl, -⟩ := own_form own1
  have S0 := Lib.hid (show Below w.heap.size w w1 ∧ w1.ownsRow w.heap.size 5 1 (.slice A1 l0.length c1) l0.length (l0.flatMap bc) from ⟨hb1, own1⟩)
  clear own1 hb1 hl0
  go_wp2_with (fail)
  go_loopw [4, 6, 15] (fun v _ i wr => ∃ (k : Nat) (acc : List UInt8) (A : Option Addr) (c : Nat), k ≤ l.length ∧ i = .int .i64 k ∧ v = .slice A acc.length c ∧ Hid (∀ x ∈ (deeds l).take k, x.ok = true) ∧ Hid (acc = num (l.length : Int) ++ ((deeds l).take k).flatMap deedB) ∧
      Hid (Below w.heap.size w wr ∧ wr.ownsRow w.heap.size 5 1 (.slice A acc.length c) acc.length (acc.flatMap bc))) (fun _ _ i _ => l.length - (intOf i).toNat)
  case atStart => exact ⟨0, l0, A1, c1, by omega, rfl, rfl, by intro x hx; simp at hx, by show _ = _; rw [HL0.out]; simp, S0.out⟩
  case round =>
    obtain ⟨k, acc, A2, c2, hk, rfl, rfl, OK, HA, S⟩ := hrel
    have hz := S.out.1.size
    have hal : acc.length ≤ 790007 := by
      have := FW.out k (by rw [deeds_len']; exact hk) OK.out
      rw [HA.out, List.length_append]
      omega
    clear S0 HL0 hl0n
    by_cases hlt : k < l.length
    · have d2 : decide ((k : Int) < (l.length : Int)) = true := by simp; omega
      obtain ⟨b, off, hA, hb, hat⟩ := HH.out.at hlt
      have hmem := List.getElem_mem hlt
      have hfit := HH.out.fit _ hmem
      have hwa := HH.out.at_ _ hmem
      have hdx := HDD.out _ hmem
      have HAT := Lib.hid hat
      have HFT := Lib.hid (deeds_flat l hlt)
      have HOK := Lib.hid (deeds_oks l hlt OK.out)
      have HBD := Lib.hid (fun (e : l[k].o.ok = false) => mayAll_at (l := deeds l) (List.mem_map.2 ⟨_, hmem, rfl⟩) e)
      obtain ⟨x, hx⟩ : ∃ x, x = l[k] := ⟨_, rfl⟩
      rw [← hx] at HAT hfit hwa HFT HOK HBD hdx
      have HD := Lib.hid hdx
      have HF := Lib.hid hfit
      have HW := Lib.hid hwa
      have hi1 : (0 : Int) ≤ (k : Int) := by omega
      have hi2 : (k : Int) < (l.length : Int) := by omega
      clear hat hx hfit hwa hmem hdx
      subst hA
      go_wp2_with (with_reducible refine slG 45 (.tmp 17) rfl ?_)
      refine Stop.mk (wlG (by rfl) _ _ rfl b (off + k * 63) rfl (x.o.arr x.q) (HAT.out _ S.out.1) strOp (Deed.arr_size x.wf) ?_)
      go_wp2_with (with_reducible refine stS 45 (.tmp 6) (.tmp 18) rfl rfl ?_)
      refine Stop.mk (wsB rfl _ _ _ rfl wr.heap.size _ (by first | rfl | simp) rfl _ (Blk.new _ _ _) strOp (Deed.arr_size x.wf) (by rw [Deed.arr_size x.wf]; rfl) (Deed.arr_ones x.wf) ?_)
      intro w3 hb3 hk3
      have B3 := fresh_below hk3
      obtain ⟨g, hg⟩ : ∃ g, g = wr.heap.size := ⟨_, rfl⟩
      rw [← hg] at hb3 ⊢
      have G := Lib.hid hb3
      replace S := Lib.hid (show Below w.heap.size w w3 ∧ w3.ownsRow w.heap.size 5 1 (.slice A2 acc.length c2) acc.length (acc.flatMap bc) from ⟨S.out.1.trans (B3.mono hz), own_below S.out.2 B3⟩)
      clear hb3 hk3 B3 hg hz
      go_wp2_with (with_reducible refine stop_load 45 (.tmp 6) rfl rfl ?_)
      refine Stop.mk (wpList_loadB rfl _ _ rfl g rfl _ G.out strOp (Deed.arr_size x.wf) ?_)
      go_wp2_with (fail)
      refine (script_Check_D1 x.o x.q _ HF.out (HW.out.below S.out.1) HD.out.1 HD.out.2.1 HD.out.2.2).mono ?_
      rintro e w4 ⟨rfl, hb4⟩
      replace G := Lib.hid (G.out.below hb4 G.out.lt)
      replace S := Lib.hid (show Below w.heap.size w w4 ∧ w4.ownsRow w.heap.size 5 1 (.slice A2 acc.length c2) acc.length (acc.flatMap bc) from ⟨S.out.1.trans (hb4.mono S.out.1.size), own_below S.out.2 hb4⟩)
      clear hb4
      cases hok : x.o.ok
      · have hm := HBD.out hok
        have HB := Lib.hid (enc_bad hm)
        have HM := Lib.hid hm
        clear hm
        go_wp2_with (fail)
        go_ret2
        exact ⟨by rw [HB.out, HM.out]; rfl, S.out.1⟩
      · have hsh := ok_short hok
        go_wp2_with (with_reducible refine stop_load 45 (.tmp 6) rfl rfl ?_)
        refine Stop.mk (wpList_loadB rfl _ _ rfl g rfl _ G.out strOp (Deed.arr_size x.wf) ?_)
        go_wp2_with (fail)
        refine (script_put_D acc A2 c2 x.o x.q _ (In.own4 bc_len S.out.2 (by omega)) (by omega) (HT.out.below S.out.1) HF.out (HW.out.below S.out.1) HD.out.1).mono ?_
        rintro e w5 ⟨v5, rfl, own5, hb5⟩
        obtain ⟨l5, hl5⟩ : ∃ y, y = acc ++ deedB x.o := ⟨_, rfl⟩
        rw [← hl5] at own5
        have HA5 := Lib.hid (show l5 = num (l.length : Int) ++ ((deeds l).take (k + 1)).flatMap deedB by rw [hl5, HA.out, HFT.out, List.append_assoc])
        obtain ⟨A5, c5, rfl, -⟩ := own_form own5
        have S5 := Lib.hid (show Below w.heap.size w w5 ∧ w5.ownsRow w.heap.size 5 1 (.slice A5 l5.length c5) l5.length (l5.flatMap bc) from ⟨S.out.1.trans (hb5.mono S.out.1.size), own_base own5 S.out.1.size⟩)
        have OK5 := Lib.hid (HOK.out hok)
        clear own5 hb5 hl5 hok S G
        go_wp2_with (fail)
        go_roundw
        case rel => exact ⟨k + 1, l5, A5, c5, by omega, by go_num, rfl, OK5.out, HA5.out, S5.out⟩
        case measure => simp [intOf]; omega
    · obtain rfl : k = l.length := by omega
      have d2 : decide ((l.length : Int) < (l.length : Int)) = false := by simp
      have hm := Lib.hid (mayAll_of (l := deeds l) (by rw [deeds_len']; omega) (by have := OK.out; rw [deeds_all] at this; exact this))
      have HE := Lib.hid (show encB (deeds l) = acc by rw [enc_ok hm.out, HA.out, deeds_all]; unfold scriptB; rw [deeds_len'])
      have kb := conv_str (P := Tryz.prog) wr Tryz.underlying48 Tryz.underlying5 Tryz.underlying9 (In.own4 bc_len S.out.2 (by omega))
      go_wp2_with (fail)
      go_ret2
      exact ⟨by rw [HE.out, hm.out]; rfl, S.out.1⟩
end Go.Proofs.YtiedkcijjfmhaaaGreatDoor
namespace Go.Proofs.YtiedkcijjfmhaaaGreatDoor
open Go.RowKit

theorem DQ.lit (x : DQ) : ([x].flatMap DQ.cells).toArray = x.o.arr x.q := by unfold DQ.cells; simp
theorem InQ.lit1 (x : DQ) (w : World) (t : TypeId) (hf : x.o.fit) (ha : x.o.at_ w x.q) : InQ (w.alloc (.cells (x.o.arr x.q) t)) (some ⟨w.heap.size, 0, none⟩) 1 [x] := by
  have h := In.lit DQ.cells_len w [x] t 1 rfl (by simp)
  rw [DQ.lit] at h
  refine ⟨h, fun y hy => ?_, fun y hy => ?_⟩
  · rw [List.mem_singleton.1 hy]; exact hf
  · rw [List.mem_singleton.1 hy]; exact ha.below ((Below.refl _ _).alloc (Nat.le_refl _) _)
def awD : DQ := ⟨{ dz with kind := 6, dev := 2 }, wz, ⟨rfl, rfl⟩⟩
theorem awD_arr : awD.o.arr awD.q = #[.int .i64 6, .int .i64 0, .int .i64 2, .int .i64 0, .int .i64 0, .int .i64 0, .int .i64 0, .int .u32 0, .int .u32 0, .int .i64 0, .int .i64 0, .string (str []), .int .i64 0, .int .i64 0, .string (str []), .int .i64 0, .int .i64 0, .string (str []), .int .i64 0, .int .i64 0, .string (str []), .int .i64 0, .int .i64 0, .string (str []), .int .i64 0, .int .i64 0, .string (str []), .int .i64 0, .int .i64 0, .string (str []), .int .i64 0, .int .i64 0, .string (str []), .slice none 0 0, .int .u32 0, .int .u32 0, .int .u32 0, .int .i64 0, .int .i64 0, .string (str []), .int .i64 0, .int .i64 0, .string (str []), .int .i64 0, .int .i64 0, .string (str []), .int .i64 0, .int .i64 0, .string (str []), .int .i64 0, .int .i64 0, .string (str []), .int .i64 0, .int .i64 0, .string (str []), .int .i64 0, .int .i64 0, .string (str []), .int .i64 0, .int .i64 0, .string (str []), .slice none 0 0, .string (str [])] := by unfold awD Deed.arr Edit.arr Patch.arr; rfl
theorem awD_enc : encB (deeds [awD]) = [1, 6, 2] := by decide +kernel
theorem awD_may : Deed.mayAll (deeds [awD]) = true := by decide +kernel
theorem fit_of {d : Deed} (hw : d.wf) (h1 : d.f = []) (h2 : d.e = ez) (h3 : d.p = pz) (h4 : d.mask = 0) (h5 : d.text = []) : d.fit := by
  refine ⟨hw, by rw [h1]; simp, by rw [h2]; decide, by rw [h3]; decide, by rw [h2]; decide, by rw [h3]; decide, by rw [h4]; decide, by rw [h5]; simp⟩
theorem at_of {d : Deed} (w : World) (h1 : d.f = []) (h2 : d.keep = []) : d.at_ w wz := ⟨by rw [h1]; exact In.nil (by simp), by rw [h2]; exact In.nil (by simp)⟩
theorem awD_built : Tryz.prog.built 45 [(0, .int .i64 6), (2, .int .i64 2)] = some #[.int .i64 6, .int .i64 0, .int .i64 2, .int .i64 0, .int .i64 0, .int .i64 0, .int .i64 0, .int .u32 0, .int .u32 0, .int .i64 0, .int .i64 0, .string (str []), .int .i64 0, .int .i64 0, .string (str []), .int .i64 0, .int .i64 0, .string (str []), .int .i64 0, .int .i64 0, .string (str []), .int .i64 0, .int .i64 0, .string (str []), .int .i64 0, .int .i64 0, .string (str []), .int .i64 0, .int .i64 0, .string (str []), .int .i64 0, .int .i64 0, .string (str []), .slice none 0 0, .int .u32 0, .int .u32 0, .int .u32 0, .int .i64 0, .int .i64 0, .string (str []), .int .i64 0, .int .i64 0, .string (str []), .int .i64 0, .int .i64 0, .string (str []), .int .i64 0, .int .i64 0, .string (str []), .int .i64 0, .int .i64 0, .string (str []), .int .i64 0, .int .i64 0, .string (str []), .int .i64 0, .int .i64 0, .string (str []), .int .i64 0, .int .i64 0, .string (str []), .slice none 0 0, .string (str [])] := by kernel_rfl
set_option maxHeartbeats 4000000 in
set_option maxRecDepth 10000 in
theorem c_law47_awake (w : World) (hT : Tab w) : Calls Tryz.prog 4 #[] w (RetV w (.bool true)) := by
  have HT := Lib.hid hT
  clear hT
  go_enter Tryz.func4, Tryz.ntmps4
  go_wp2_with (with_reducible refine stop_build 45 _ rfl ?_)
  refine Stop.mk (wpList_buildD rfl _ _ rfl [(0, .int .i64 6), (2, .int .i64 2)] (by rfl) (awD.o.arr awD.q) (awD_built.trans (by rw [awD_arr])) ?_)
  go_wp2_with (with_reducible refine stop_lit 23 _ rfl ?_)
  refine Stop.mk (wpList_lit1 rfl _ _ _ rfl elemOp (by omega) _ rfl (Deed.arr_size awD.wf) ?_)
  have B1 := Lib.hid ((Below.refl w.heap.size w).alloc (Nat.le_refl _) (.cells (awD.o.arr awD.q) 45))
  have IQ := Lib.hid (InQ.lit1 awD w 45 (fit_of ⟨rfl, rfl⟩ rfl rfl rfl rfl rfl) (at_of w rfl rfl))
  obtain ⟨w1, hw1⟩ : ∃ x, x = w.alloc (.cells (awD.o.arr awD.q) 45) := ⟨_, rfl⟩
  rw [← hw1] at B1 IQ ⊢
  clear hw1
  have CE := Lib.hid (show Calls Tryz.prog 8 #[.slice (some ⟨w.heap.size, 0, none⟩) 1 1] w1 (RetEnc w1 (deeds [awD])) from c_script_EncodeD [awD] _ 1 w1 IQ.out (fun x hx => by rw [List.mem_singleton.1 hx]; exact ⟨.inr rfl, by decide, by decide⟩) (HT.out.below B1.out) (fun _ => few_of (by decide)))
  go_wp2_with (fail)
  refine CE.out.mono ?_
  rintro e w2 ⟨rfl, hb2⟩
  rw [awD_enc, awD_may]
  have B2 := Lib.hid (B1.out.trans (hb2.mono B1.out.size))
  clear hb2 CE IQ B1
  go_wp2_with (fail)
  go_ret
  exact RetV.bool rfl B2.out
end Go.Proofs.YtiedkcijjfmhaaaGreatDoor
namespace Go.Proofs.YtiedkcijjfmhaaaGreatDoor
open Go.RowKit

theorem stop_callS {P : Program} {w : World} {ops : Array Oper} {rest : List Oper} {o : Oper} {a : Act} {Q : Exit → Act → World → Prop} (c : Call) (_ : o.op = .call c) (h : Stop (wpList P ops Q (o :: rest) a w)) : wpList P ops Q (o :: rest) a w := h
/-- The end of a call that reads an act. -/
def RetPD (p : Option Nat) (st' : Rd) (w : World) (d : Deed) (e : Ending) (w' : World) : Prop :=
  ∃ q : Where, e = .returned (.agg (d.arr q)) ∧ w'.ownsRow w.heap.size 96 5 (.slice q.A d.f.length q.n) d.f.length (d.f.flatMap Node.cells) ∧
    w'.ownsRow w.heap.size 3 1 (.slice q.K d.keep.length q.m) d.keep.length (d.keep.flatMap ic) ∧ RdP w' p st' ∧ Kept p w.heap.size w w'
theorem built_kind (k : Int) : Tryz.prog.built 45 [(0, .int .i64 k)] = some (Deed.arr { dz with kind := k } wz) := by rw [dz_arr]; kernel_rfl
theorem dd_z {st : Rd} (h : ddK st = 0) : rdDeed st = { dz with kind := 0 } := by unfold rdDeed; simp [h, dN, dD]
section
variable {p : Option Nat} {S S' : Rd} {w w1 w2 : World} {G B : Nat} {X Z : Array Value} {A : Option Addr} {c : Nat} {l : List Int} {x : Int} {L : Nat → Bool} {u : Nat → Value} {v : Value} {j : Nat}
theorem EnvP.belowB {bl : List (Nat × Array Value)} (h : EnvP p S w w1 bl) (hB : w.heap.size ≤ B) (hl : ∀ y ∈ bl, y.1 < B) (k : Below B w1 w2) : EnvP p S w w2 bl := by
  refine ⟨h.low, h.kept.trans (.of_below (k.mono hB)), h.rd.up k (fun g hg => Nat.lt_of_lt_of_le (h.low g hg) hB), ?_⟩
  have h2 := h.blks
  clear h
  induction bl with
  | nil => trivial
  | cons y r ih =>
    obtain ⟨⟨a1, a2, a3⟩, a4⟩ := h2
    exact ⟨⟨a1.below k (hl y (List.mem_cons_self ..)), a2, a3⟩, ih (fun z hz => hl z (List.mem_cons_of_mem _ hz)) a4⟩
/-- What is told of the memory while a number is read and put behind others. -/
structure KM (p : Option Nat) (S S' : Rd) (w : World) (G B : Nat) (X Z : Array Value) (A : Option Addr) (c : Nat) (l : List Int) (x : Int) (L : Nat → Bool) (u : Nat → Value) (w1 : World) : Prop where
  c7 : L 7 = true → L 5 = true
  c5 : L 5 = true → L 4 = true ∧ L 1 = true
  c4 : L 4 = true → L 3 = true
  hB : B ≤ w1.heap.size
  hw : w.heap.size < G
  hG : G < B
  env : EnvP p (if L 3 = true then S' else S) w w1 [(G, if L 7 = true then X.setIfInBounds 61 (u 5) else X), (w.heap.size, Z)]
  own : if L 5 = true then w1.ownsRow B 3 1 (u 5) (l.length + 1) ((l ++ [x]).flatMap ic) else w1.ownsRow B 3 1 (.slice A l.length c) l.length (l.flatMap ic)
  lit : L 4 = true → L 5 = false → ∃ g, u 4 = .slice (some ⟨g, 0, none⟩) 1 1 ∧ Src w1 (some ⟨g, 0, none⟩) 1 1 (ic x)
theorem KM.start (hB : B ≤ w1.heap.size) (hw : w.heap.size < G) (hG : G < B) (e : EnvP p S w w1 [(G, X), (w.heap.size, Z)]) (o : w1.ownsRow B 3 1 (.slice A l.length c) l.length (l.flatMap ic)) : KM p S S' w G B X Z A c l x (fun _ => false) u w1 :=
  ⟨(fun h => by cases h), (fun h => by cases h), (fun h => by cases h), hB, hw, hG, e, o, (fun h => by cases h)⟩
theorem KM.low (h : KM p S S' w G B X Z A c l x L u w1) : ∀ g, p = some g → g < B := fun g hg => by have := h.env.low g hg; have := h.hw; have := h.hG; omega
theorem KM.no4 (h : KM p S S' w G B X Z A c l x L u w1) (h3 : L 3 = false) : L 4 = false := by
  cases e : L 4
  · rfl
  · have := h.c4 e; rw [h3] at this; cases this
theorem KM.no5 (h : KM p S S' w G B X Z A c l x L u w1) (h4 : L 4 = false) : L 5 = false := by
  cases e : L 5
  · rfl
  · have := (h.c5 e).1; rw [h4] at this; cases this
theorem KM.no7 (h : KM p S S' w G B X Z A c l x L u w1) (h5 : L 5 = false) : L 7 = false := by
  cases e : L 7
  · rfl
  · have := h.c7 e; rw [h5] at this; cases this
theorem KM.no5' (h : KM p S S' w G B X Z A c l x L u w1) (h1 : L 1 = false) : L 5 = false := by
  cases e : L 5
  · rfl
  · have := (h.c5 e).2; rw [h1] at this; cases this
theorem KM.pure (h : KM p S S' w G B X Z A c l x L u w1) (h3 : j ≠ 3) (h4 : j ≠ 4) (h5 : j ≠ 5) (h7 : j ≠ 7) : KM p S S' w G B X Z A c l x (upd L j true) (upd u j v) w1 := by
  have e3 : upd L j true 3 = L 3 := upd_other _ _ (Ne.symm h3)
  have e4 : upd L j true 4 = L 4 := upd_other _ _ (Ne.symm h4)
  have e5 : upd L j true 5 = L 5 := upd_other _ _ (Ne.symm h5)
  have e7 : upd L j true 7 = L 7 := upd_other _ _ (Ne.symm h7)
  have f4 : upd u j v 4 = u 4 := upd_other _ _ (Ne.symm h4)
  have f5 : upd u j v 5 = u 5 := upd_other _ _ (Ne.symm h5)
  refine ⟨by rw [e7, e5]; exact h.c7, ?_, by rw [e4, e3]; exact h.c4, h.hB, h.hw, h.hG, by rw [e3, e7, f5]; exact h.env, by rw [e5, f5]; exact h.own, by rw [e4, e5, f4]; exact h.lit⟩
  rw [e5, e4]
  intro hh
  obtain ⟨a, b⟩ := h.c5 hh
  refine ⟨a, ?_⟩
  by_cases hj : 1 = j
  · subst hj; exact upd_same ..
  · rw [upd_other _ _ hj]; exact b
theorem KM.call (h : KM p S S' w G B X Z A c l x L u w1) (h3 : L 3 = false) (r : RdP w2 p S') (k : Kept p w1.heap.size w1 w2) : KM p S S' w G B X Z A c l x (upd L 3 true) (upd u 3 v) w2 := by
  have h4 := h.no4 h3
  have h5 := h.no5 h4
  have h7 := h.no7 h5
  have o := h.own
  have E := h.env
  rw [if_neg (by rw [h5]; simp)] at o
  rw [if_neg (by rw [h3]; simp), if_neg (by rw [h7]; simp)] at E
  have e4 : upd L 3 true 4 = false := (upd_other _ _ (by decide)).trans h4
  have e5 : upd L 3 true 5 = false := (upd_other _ _ (by decide)).trans h5
  have e7 : upd L 3 true 7 = false := (upd_other _ _ (by decide)).trans h7
  refine ⟨(fun e => by rw [e7] at e; cases e), (fun e => by rw [e5] at e; cases e), (fun e => by rw [e4] at e; cases e), Nat.le_trans h.hB k.size, h.hw, h.hG, ?_, ?_, (fun e => by rw [e4] at e; cases e)⟩
  · rw [upd_same, if_pos rfl, if_neg (by rw [e7]; simp)]
    exact E.call r k
  · rw [if_neg (by rw [e5]; simp)]
    exact own_kept o k h.low
theorem KM.make (h : KM p S S' w G B X Z A c l x L u w1) (h3 : L 3 = true) (h4 : L 4 = false) : KM p S S' w G B X Z A c l x (upd L 4 true) (upd u 4 (.slice (some ⟨w1.heap.size, 0, none⟩) 1 1)) (w1.alloc (.cells #[.int .i64 x] 3)) := by
  have h5 := h.no5 h4
  have h7 := h.no7 h5
  have o := h.own
  have E := h.env
  rw [if_neg (by rw [h5]; simp)] at o
  rw [if_pos h3, if_neg (by rw [h7]; simp)] at E
  have e3 : upd L 4 true 3 = true := (upd_other _ _ (by decide)).trans h3
  have e5 : upd L 4 true 5 = false := (upd_other _ _ (by decide)).trans h5
  have e7 : upd L 4 true 7 = false := (upd_other _ _ (by decide)).trans h7
  have hb : Below w1.heap.size w1 (w1.alloc (.cells #[.int .i64 x] 3)) := (Below.refl _ _).alloc (Nat.le_refl _) _
  refine ⟨(fun e => by rw [e7] at e; cases e), (fun e => by rw [e5] at e; cases e), fun _ => e3, Nat.le_trans h.hB hb.size, h.hw, h.hG, ?_, ?_, fun _ _ => ⟨w1.heap.size, upd_same .., Src.new w1 (ic x) _ 1 rfl⟩⟩
  · rw [if_pos e3, if_neg (by rw [e7]; simp)]
    exact E.below hb
  · rw [if_neg (by rw [e5]; simp)]
    exact own_below o hb
theorem KM.app (h : KM p S S' w G B X Z A c l x L u w1) (h1 : L 1 = true) (h4 : L 4 = true) (h5 : L 5 = false) (o : w2.ownsRow B 3 1 v (l.length + 1) (l.flatMap ic ++ ic x)) (k : Below B w1 w2) : KM p S S' w G B X Z A c l x (upd L 5 true) (upd u 5 v) w2 := by
  have h3 := h.c4 h4
  have h7 := h.no7 h5
  have E := h.env
  rw [if_pos h3, if_neg (by rw [h7]; simp)] at E
  have e1 : upd L 5 true 1 = true := (upd_other _ _ (by decide)).trans h1
  have e3 : upd L 5 true 3 = true := (upd_other _ _ (by decide)).trans h3
  have e4 : upd L 5 true 4 = true := (upd_other _ _ (by decide)).trans h4
  have e7 : upd L 5 true 7 = false := (upd_other _ _ (by decide)).trans h7
  have e5 : upd L 5 true 5 = true := upd_same ..
  have hw := h.hw
  have hG := h.hG
  refine ⟨(fun e => by rw [e7] at e; cases e), fun _ => ⟨e4, e1⟩, fun _ => e3, Nat.le_trans h.hB k.size, h.hw, h.hG, ?_, ?_, (fun _ e => by rw [e5] at e; cases e)⟩
  · rw [if_pos e3, if_neg (by rw [e7]; simp)]
    refine E.belowB (by omega) (fun y hy => ?_) k
    rcases List.mem_cons.1 hy with rfl | hy
    · exact hG
    · rw [List.mem_singleton.1 hy]; simp only; omega
  · rw [if_pos e5, upd_same, List.flatMap_append, List.flatMap_cons, List.flatMap_nil, List.append_nil]
    exact o
theorem KM.put (h : KM p S S' w G B X Z A c l x L u w1) (h5 : L 5 = true) (h7 : L 7 = false) : KM p S S' w G B X Z A c l x (upd L 7 true) (upd u 7 v) (w1.setCell ⟨G, 61, none⟩ (u 5)) := by
  have h4 := (h.c5 h5).1
  have h1 := (h.c5 h5).2
  have h3 := h.c4 h4
  have o := h.own
  have E := h.env
  rw [if_pos h5] at o
  rw [if_pos h3, if_neg (by rw [h7]; simp)] at E
  have e1 : upd L 7 true 1 = true := (upd_other _ _ (by decide)).trans h1
  have e3 : upd L 7 true 3 = true := (upd_other _ _ (by decide)).trans h3
  have e4 : upd L 7 true 4 = true := (upd_other _ _ (by decide)).trans h4
  have e5 : upd L 7 true 5 = true := (upd_other _ _ (by decide)).trans h5
  have f5 : upd u 7 v 5 = u 5 := upd_other _ _ (by decide)
  have hG := h.hG
  refine ⟨fun _ => e5, fun _ => ⟨e4, e1⟩, fun _ => e3, Nat.le_trans h.hB (kept_set w1 G 61 (u 5)).size, h.hw, h.hG, ?_, ?_, (fun _ e => by rw [e5] at e; cases e)⟩
  · rw [if_pos e3, if_pos (upd_same ..), f5]
    exact E.store0 61 (u 5)
  · rw [if_pos e5, f5]
    exact own_kept o (kept_set w1 G 61 (u 5)) (fun g hg => by injection hg with hg; omega)
theorem KM.done (h : KM p S S' w G B X Z A c l x (fun j => decide (j < 8)) u w1) : EnvP p S' w w1 [(G, X.setIfInBounds 61 (u 5)), (w.heap.size, Z)] ∧ w1.ownsRow B 3 1 (u 5) (l.length + 1) ((l ++ [x]).flatMap ic) := ⟨h.env, h.own⟩
theorem KM.blk (h : KM p S S' w G B X Z A c l x L u w1) (h7 : L 7 = false) : Blk w1 G X := by
  have := h.env.b0
  rwa [if_neg (by rw [h7]; simp)] at this
end
end Go.Proofs.YtiedkcijjfmhaaaGreatDoor
namespace Go.Proofs.YtiedkcijjfmhaaaGreatDoor
open Go.RowKit

set_option maxHeartbeats 40000000 in
set_option maxRecDepth 10000 in
theorem script_read_Z (p : Option Nat) (st : Rd) (w : World) (hT : Tab w) (hr : RdP w p st) (hk0 : ddK st = 0) : Calls Tryz.prog 11 #[ptr p] w (RetPD p (rdDeed' st) w (rdDeed st)) := by
  have x2 := dd_z hk0
  obtain ⟨x1, -⟩ := dd_0 hk0
  obtain ⟨K, hK⟩ : ∃ K, K = ddK st := ⟨_, rfl⟩
  rw [← hK] at hk0
  have FE : dE K = false := by unfold dE; simp; omega
  have FN : dN K = false := by unfold dN; simp; omega
  have FD : dD K = false := by unfold dD; simp; omega
  have FF : dF K = false := by unfold dF; simp; omega
  have FW : dW K = false := by unfold dW; simp; omega
  have FK : dK K = false := by unfold dK; simp; omega
  have FT : dT K = false := by unfold dT; simp; omega
  have j0 : (K == 0) = true := by simp; omega
  have X1 := Lib.hid x1
  have X2 := Lib.hid (show rdDeed st = { dz with kind := K } by rw [x2, hk0])
  have HK := Lib.hid (show rdN st 12 = K from hK.symm)
  have HA := Lib.hid (show rdF (rdN' st 12) 3 = ddA st from (rdAb'_zero (by rw [show rdN st 12 = ddK st from rfl, ← hK]; omega)).symm)
  have hpT := Lib.hid (hr.tab hT)
  have HT := Lib.hid hT
  have HRD := Lib.hid hr
  clear x1 hk0 hr hT hK x2 
  go_enter Tryz.func11, Tryz.ntmps11
  go_wp2_with (with_reducible refine stop_callS _ rfl ?_)
  refine Stop.mk (EnvP.go HRD.out ?_)
  intro w00 he00 hz00
  have E := Lib.hid he00
  clear he00
  go_wp2_with (fail)
  refine (c_octet_RNum p st 12 _ E.out.rd).mono ?_
  rintro e w6 ⟨rfl, hr6, hk6⟩
  rw [HK.out]
  have hz6 := hk6.size
  replace E := Lib.hid (E.out.call hr6 hk6)
  clear hr6 hk6
  go_wp2_with (with_reducible refine stop_build 45 _ rfl ?_)
  refine Stop.mk (wpList_buildD rfl _ _ rfl [(0, .int .i64 K)] (by rfl) (Deed.arr { dz with kind := K } wz) (built_kind K) ?_)
  go_wp2_with (with_reducible refine stS 45 (.tmp 3) (.tmp 6) rfl rfl ?_)
  refine Stop.mk (wsB rfl _ _ _ rfl w6.heap.size _ (by first | rfl | simp) rfl _ (Blk.new _ _ _) strOp (Deed.arr_size ⟨rfl, rfl⟩) (by rw [Deed.arr_size ⟨rfl, rfl⟩]; rfl) (Deed.arr_ones ⟨rfl, rfl⟩) ?_)
  intro w7 hb7 hk7
  replace E := Lib.hid ((E.out.alloc 45 _).put0 hb7 hk7)
  obtain ⟨G, hG⟩ : ∃ g, g = w6.heap.size := ⟨_, rfl⟩
  have HG := Lib.hid (show w.heap.size < G by omega)
  rw [← hG] at E ⊢
  clear hb7 hk7 hG hz6 hz00
  have hw := Lib.hid (show Deed.wf { dz with kind := K } from ⟨rfl, rfl⟩)
  obtain ⟨p0, p1, p2, p3, p4, p5, p6, p7⟩ := dcs hw.out E.out.b0
  have ff := fun i => E.out.b0.frozen i
  have hlt := E.out.b0.lt
  go_wp2_with (fail)
  clear p0 p1 p2 p3 p4 p5 p6 p7 ff hlt
  refine (c_octet_Fail p _ 3 _ E.out.rd).mono ?_
  rintro e w9 ⟨rfl, hr9, hk9⟩
  replace E := Lib.hid ((E.out.call hr9 hk9).state (show _ = ddA st from HA.out))
  clear hr9 hk9
  obtain ⟨p0, p1, p2, p3, p4, p5, p6, p7⟩ := dcs hw.out E.out.b0
  have ff := fun i => E.out.b0.frozen i
  have hlt := E.out.b0.lt
  go_wp2_with (fail)
  clear p0 p1 p2 p3 p4 p5 p6 p7 ff hlt
  refine (csh K 1 _).mono ?_
  rintro e w9 ⟨rfl, hb9⟩
  rw [hasD_E K, FE]
  replace E := Lib.hid (E.out.below hb9)
  clear hb9
  obtain ⟨p0, p1, p2, p3, p4, p5, p6, p7⟩ := dcs hw.out E.out.b0
  have ff := fun i => E.out.b0.frozen i
  have hlt := E.out.b0.lt
  go_wp2_with (fail)
  clear p0 p1 p2 p3 p4 p5 p6 p7 ff hlt
  refine (csh K 2 _).mono ?_
  rintro e w9 ⟨rfl, hb9⟩
  rw [hasD_N K, FN]
  replace E := Lib.hid (E.out.below hb9)
  clear hb9
  obtain ⟨p0, p1, p2, p3, p4, p5, p6, p7⟩ := dcs hw.out E.out.b0
  have ff := fun i => E.out.b0.frozen i
  have hlt := E.out.b0.lt
  go_wp2_with (fail)
  clear p0 p1 p2 p3 p4 p5 p6 p7 ff hlt
  refine (csh K 4 _).mono ?_
  rintro e w9 ⟨rfl, hb9⟩
  rw [hasD_D K, FD]
  replace E := Lib.hid (E.out.below hb9)
  clear hb9
  obtain ⟨p0, p1, p2, p3, p4, p5, p6, p7⟩ := dcs hw.out E.out.b0
  have ff := fun i => E.out.b0.frozen i
  have hlt := E.out.b0.lt
  go_wp2_with (fail)
  clear p0 p1 p2 p3 p4 p5 p6 p7 ff hlt
  refine (csh K 8 _).mono ?_
  rintro e w9 ⟨rfl, hb9⟩
  rw [hasD_F K, FF]
  replace E := Lib.hid (E.out.below hb9)
  clear hb9
  obtain ⟨p0, p1, p2, p3, p4, p5, p6, p7⟩ := dcs hw.out E.out.b0
  have ff := fun i => E.out.b0.frozen i
  have hlt := E.out.b0.lt
  go_wp2_with (fail)
  clear p0 p1 p2 p3 p4 p5 p6 p7 ff hlt
  refine (csh K 16 _).mono ?_
  rintro e w9 ⟨rfl, hb9⟩
  rw [hasD_W K, FW]
  replace E := Lib.hid (E.out.below hb9)
  clear hb9
  obtain ⟨p0, p1, p2, p3, p4, p5, p6, p7⟩ := dcs hw.out E.out.b0
  have ff := fun i => E.out.b0.frozen i
  have hlt := E.out.b0.lt
  go_wp2_with (fail)
  clear p0 p1 p2 p3 p4 p5 p6 p7 ff hlt
  refine (csh K 32 _).mono ?_
  rintro e w9 ⟨rfl, hb9⟩
  rw [hasD_K K, FK]
  replace E := Lib.hid (E.out.below hb9)
  clear hb9
  obtain ⟨p0, p1, p2, p3, p4, p5, p6, p7⟩ := dcs hw.out E.out.b0
  have ff := fun i => E.out.b0.frozen i
  have hlt := E.out.b0.lt
  go_wp2_with (fail)
  clear p0 p1 p2 p3 p4 p5 p6 p7 ff hlt
  refine (csh K 64 _).mono ?_
  rintro e w9 ⟨rfl, hb9⟩
  rw [hasD_T K, FT]
  replace E := Lib.hid (E.out.below hb9)
  clear hb9
  obtain ⟨p0, p1, p2, p3, p4, p5, p6, p7⟩ := dcs hw.out E.out.b0
  have ff := fun i => E.out.b0.frozen i
  have hlt := E.out.b0.lt
  go_wp2_with (with_reducible refine stop_load 45 (.tmp 3) rfl rfl ?_)
  clear p0 p1 p2 p3 p4 p5 p6 p7 ff hlt
  refine Stop.mk (wpList_loadB rfl _ _ rfl G rfl _ E.out.b0 strOp (Deed.arr_size hw.out) ?_)
  go_wp2_with (with_reducible refine stS 45 (.tmp 2) (.tmp 81) rfl rfl ?_)
  refine Stop.mk (wsB rfl _ _ _ rfl w.heap.size _ rfl rfl _ E.out.b1 strOp (Deed.arr_size hw.out) (by rw [Deed.arr_size hw.out]; rfl) (Deed.arr_ones hw.out) ?_)
  intro w99 hb99 hk99
  replace E := Lib.hid ((E.out.put1 hb99 hk99).state (show _ = rdDeed' st by rw [X1.out]))
  clear hk99
  go_wp2_with (fail)
  rw [X2.out]
  exact bodyPost_ret (results_B rfl rfl hb99 strOp (Deed.arr_size hw.out)) rfl ⟨wz, rfl, World.ownsRow_nil _ _ _ _, World.ownsRow_nil _ _ _ _, E.out.rd, E.out.kept⟩
set_option maxHeartbeats 40000000 in
set_option maxRecDepth 10000 in
theorem script_read_N (p : Option Nat) (st : Rd) (w : World) (hT : Tab w) (hr : RdP w p st) (hk0 : ddK st = 2 ∨ ddK st = 7 ∨ ddK st = 8 ∨ ddK st = 9 ∨ ddK st = 10) : Calls Tryz.prog 11 #[ptr p] w (RetPD p (rdDeed' st) w (rdDeed st)) := by
  obtain ⟨x1, x2⟩ := dd_N (st := st) (by unfold dN; simp; omega)
  obtain ⟨K, hK⟩ : ∃ K, K = ddK st := ⟨_, rfl⟩
  obtain ⟨D, hD⟩ : ∃ D, D = rdN (ddA st) 1099511627776 := ⟨_, rfl⟩
  have HD := Lib.hid hD
  rw [← hK] at hk0
  have FE : dE K = false := by unfold dE; simp; omega
  have FN : dN K = true := by unfold dN; simp; omega
  have FD : dD K = false := by unfold dD; simp; omega
  have FF : dF K = false := by unfold dF; simp; omega
  have FW : dW K = false := by unfold dW; simp; omega
  have FK : dK K = false := by unfold dK; simp; omega
  have FT : dT K = false := by unfold dT; simp; omega
  have j0 : (K == 0) = false := by simp; omega
  have X1 := Lib.hid x1
  have X2 := Lib.hid (show rdDeed st = { dz with kind := K, n := D } by rw [x2, hK, hD])
  have HK := Lib.hid (show rdN st 12 = K from hK.symm)
  have HA := Lib.hid (show rdN' st 12 = ddA st from (rdAb'_pos (by rw [show rdN st 12 = ddK st from rfl, ← hK]; omega)).symm)
  have hpT := Lib.hid (hr.tab hT)
  have HT := Lib.hid hT
  have HRD := Lib.hid hr
  clear x1 hk0 hr hT hK x2 hD
  go_enter Tryz.func11, Tryz.ntmps11
  go_wp2_with (with_reducible refine stop_callS _ rfl ?_)
  refine Stop.mk (EnvP.go HRD.out ?_)
  intro w00 he00 hz00
  have E := Lib.hid he00
  clear he00
  go_wp2_with (fail)
  refine (c_octet_RNum p st 12 _ E.out.rd).mono ?_
  rintro e w6 ⟨rfl, hr6, hk6⟩
  rw [HK.out]
  have hz6 := hk6.size
  replace E := Lib.hid (E.out.call hr6 hk6)
  clear hr6 hk6
  go_wp2_with (with_reducible refine stop_build 45 _ rfl ?_)
  refine Stop.mk (wpList_buildD rfl _ _ rfl [(0, .int .i64 K)] (by rfl) (Deed.arr { dz with kind := K } wz) (built_kind K) ?_)
  go_wp2_with (with_reducible refine stS 45 (.tmp 3) (.tmp 6) rfl rfl ?_)
  refine Stop.mk (wsB rfl _ _ _ rfl w6.heap.size _ (by first | rfl | simp) rfl _ (Blk.new _ _ _) strOp (Deed.arr_size ⟨rfl, rfl⟩) (by rw [Deed.arr_size ⟨rfl, rfl⟩]; rfl) (Deed.arr_ones ⟨rfl, rfl⟩) ?_)
  intro w7 hb7 hk7
  replace E := Lib.hid ((E.out.alloc 45 _).put0 hb7 hk7)
  obtain ⟨G, hG⟩ : ∃ g, g = w6.heap.size := ⟨_, rfl⟩
  have HG := Lib.hid (show w.heap.size < G by omega)
  rw [← hG] at E ⊢
  clear hb7 hk7 hG hz6 hz00
  have hw := Lib.hid (show Deed.wf { dz with kind := K } from ⟨rfl, rfl⟩)
  obtain ⟨p0, p1, p2, p3, p4, p5, p6, p7⟩ := dcs hw.out E.out.b0
  have ff := fun i => E.out.b0.frozen i
  have hlt := E.out.b0.lt
  go_wp2_with (fail)
  clear p0 p1 p2 p3 p4 p5 p6 p7 ff hlt
  replace E := Lib.hid (E.out.state HA.out)
  refine (csh K 1 _).mono ?_
  rintro e w9 ⟨rfl, hb9⟩
  rw [hasD_E K, FE]
  replace E := Lib.hid (E.out.below hb9)
  clear hb9
  obtain ⟨p0, p1, p2, p3, p4, p5, p6, p7⟩ := dcs hw.out E.out.b0
  have ff := fun i => E.out.b0.frozen i
  have hlt := E.out.b0.lt
  go_wp2_with (fail)
  clear p0 p1 p2 p3 p4 p5 p6 p7 ff hlt
  refine (csh K 2 _).mono ?_
  rintro e w9 ⟨rfl, hb9⟩
  rw [hasD_N K, FN]
  replace E := Lib.hid (E.out.below hb9)
  clear hb9
  go_wp2_with (fail)
  refine (c_octet_RNum p _ 1099511627776 _ E.out.rd).mono ?_
  rintro e w9 ⟨rfl, hr9, hk9⟩
  rw [← HD.out]
  replace E := Lib.hid ((E.out.call hr9 hk9).state (show _ = rdN' (ddA st) 1099511627776 from rfl))
  clear hr9 hk9
  obtain ⟨p0, p1, p2, p3, p4, p5, p6, p7⟩ := dcs hw.out E.out.b0
  have ff := fun i => E.out.b0.frozen i
  have hlt := E.out.b0.lt
  go_wp2_with (fail)
  clear p0 p1 p2 p3 p4 p5 p6 p7 ff hlt
  replace E := Lib.hid ((E.out.store0 1 (.int .i64 D)).as (show _ = Deed.arr { dz with kind := K, n := D } wz from by have := Deed.setI hw.out (q := wz) 1 (by omega) D; simpa using this))
  replace hw := Lib.hid (show Deed.wf { dz with kind := K, n := D } from ⟨hw.out.e, hw.out.p⟩)
  refine (csh K 4 _).mono ?_
  rintro e w9 ⟨rfl, hb9⟩
  rw [hasD_D K, FD]
  replace E := Lib.hid (E.out.below hb9)
  clear hb9
  obtain ⟨p0, p1, p2, p3, p4, p5, p6, p7⟩ := dcs hw.out E.out.b0
  have ff := fun i => E.out.b0.frozen i
  have hlt := E.out.b0.lt
  go_wp2_with (fail)
  clear p0 p1 p2 p3 p4 p5 p6 p7 ff hlt
  refine (csh K 8 _).mono ?_
  rintro e w9 ⟨rfl, hb9⟩
  rw [hasD_F K, FF]
  replace E := Lib.hid (E.out.below hb9)
  clear hb9
  obtain ⟨p0, p1, p2, p3, p4, p5, p6, p7⟩ := dcs hw.out E.out.b0
  have ff := fun i => E.out.b0.frozen i
  have hlt := E.out.b0.lt
  go_wp2_with (fail)
  clear p0 p1 p2 p3 p4 p5 p6 p7 ff hlt
  refine (csh K 16 _).mono ?_
  rintro e w9 ⟨rfl, hb9⟩
  rw [hasD_W K, FW]
  replace E := Lib.hid (E.out.below hb9)
  clear hb9
  obtain ⟨p0, p1, p2, p3, p4, p5, p6, p7⟩ := dcs hw.out E.out.b0
  have ff := fun i => E.out.b0.frozen i
  have hlt := E.out.b0.lt
  go_wp2_with (fail)
  clear p0 p1 p2 p3 p4 p5 p6 p7 ff hlt
  refine (csh K 32 _).mono ?_
  rintro e w9 ⟨rfl, hb9⟩
  rw [hasD_K K, FK]
  replace E := Lib.hid (E.out.below hb9)
  clear hb9
  obtain ⟨p0, p1, p2, p3, p4, p5, p6, p7⟩ := dcs hw.out E.out.b0
  have ff := fun i => E.out.b0.frozen i
  have hlt := E.out.b0.lt
  go_wp2_with (fail)
  clear p0 p1 p2 p3 p4 p5 p6 p7 ff hlt
  refine (csh K 64 _).mono ?_
  rintro e w9 ⟨rfl, hb9⟩
  rw [hasD_T K, FT]
  replace E := Lib.hid (E.out.below hb9)
  clear hb9
  obtain ⟨p0, p1, p2, p3, p4, p5, p6, p7⟩ := dcs hw.out E.out.b0
  have ff := fun i => E.out.b0.frozen i
  have hlt := E.out.b0.lt
  go_wp2_with (with_reducible refine stop_load 45 (.tmp 3) rfl rfl ?_)
  clear p0 p1 p2 p3 p4 p5 p6 p7 ff hlt
  refine Stop.mk (wpList_loadB rfl _ _ rfl G rfl _ E.out.b0 strOp (Deed.arr_size hw.out) ?_)
  go_wp2_with (with_reducible refine stS 45 (.tmp 2) (.tmp 81) rfl rfl ?_)
  refine Stop.mk (wsB rfl _ _ _ rfl w.heap.size _ rfl rfl _ E.out.b1 strOp (Deed.arr_size hw.out) (by rw [Deed.arr_size hw.out]; rfl) (Deed.arr_ones hw.out) ?_)
  intro w99 hb99 hk99
  replace E := Lib.hid ((E.out.put1 hb99 hk99).state (show _ = rdDeed' st by rw [X1.out]))
  clear hk99
  go_wp2_with (fail)
  rw [X2.out]
  exact bodyPost_ret (results_B rfl rfl hb99 strOp (Deed.arr_size hw.out)) rfl ⟨wz, rfl, World.ownsRow_nil _ _ _ _, World.ownsRow_nil _ _ _ _, E.out.rd, E.out.kept⟩
set_option maxHeartbeats 40000000 in
set_option maxRecDepth 10000 in
theorem script_read_D (p : Option Nat) (st : Rd) (w : World) (hT : Tab w) (hr : RdP w p st) (hk0 : ddK st = 4 ∨ ddK st = 6) : Calls Tryz.prog 11 #[ptr p] w (RetPD p (rdDeed' st) w (rdDeed st)) := by
  obtain ⟨x1, x2⟩ := dd_D hk0
  obtain ⟨K, hK⟩ : ∃ K, K = ddK st := ⟨_, rfl⟩
  obtain ⟨D, hD⟩ : ∃ D, D = rdN (ddA st) 5 := ⟨_, rfl⟩
  have HD := Lib.hid hD
  rw [← hK] at hk0
  have FE : dE K = false := by unfold dE; simp; omega
  have FN : dN K = false := by unfold dN; simp; omega
  have FD : dD K = true := by unfold dD; simp; omega
  have FF : dF K = false := by unfold dF; simp; omega
  have FW : dW K = false := by unfold dW; simp; omega
  have FK : dK K = false := by unfold dK; simp; omega
  have FT : dT K = false := by unfold dT; simp; omega
  have j0 : (K == 0) = false := by simp; omega
  have X1 := Lib.hid x1
  have X2 := Lib.hid (show rdDeed st = { dz with kind := K, dev := D } by rw [x2, hK, hD])
  have HK := Lib.hid (show rdN st 12 = K from hK.symm)
  have HA := Lib.hid (show rdN' st 12 = ddA st from (rdAb'_pos (by rw [show rdN st 12 = ddK st from rfl, ← hK]; omega)).symm)
  have hpT := Lib.hid (hr.tab hT)
  have HT := Lib.hid hT
  have HRD := Lib.hid hr
  clear x1 hk0 hr hT hK x2 hD
  go_enter Tryz.func11, Tryz.ntmps11
  go_wp2_with (with_reducible refine stop_callS _ rfl ?_)
  refine Stop.mk (EnvP.go HRD.out ?_)
  intro w00 he00 hz00
  have E := Lib.hid he00
  clear he00
  go_wp2_with (fail)
  refine (c_octet_RNum p st 12 _ E.out.rd).mono ?_
  rintro e w6 ⟨rfl, hr6, hk6⟩
  rw [HK.out]
  have hz6 := hk6.size
  replace E := Lib.hid (E.out.call hr6 hk6)
  clear hr6 hk6
  go_wp2_with (with_reducible refine stop_build 45 _ rfl ?_)
  refine Stop.mk (wpList_buildD rfl _ _ rfl [(0, .int .i64 K)] (by rfl) (Deed.arr { dz with kind := K } wz) (built_kind K) ?_)
  go_wp2_with (with_reducible refine stS 45 (.tmp 3) (.tmp 6) rfl rfl ?_)
  refine Stop.mk (wsB rfl _ _ _ rfl w6.heap.size _ (by first | rfl | simp) rfl _ (Blk.new _ _ _) strOp (Deed.arr_size ⟨rfl, rfl⟩) (by rw [Deed.arr_size ⟨rfl, rfl⟩]; rfl) (Deed.arr_ones ⟨rfl, rfl⟩) ?_)
  intro w7 hb7 hk7
  replace E := Lib.hid ((E.out.alloc 45 _).put0 hb7 hk7)
  obtain ⟨G, hG⟩ : ∃ g, g = w6.heap.size := ⟨_, rfl⟩
  have HG := Lib.hid (show w.heap.size < G by omega)
  rw [← hG] at E ⊢
  clear hb7 hk7 hG hz6 hz00
  have hw := Lib.hid (show Deed.wf { dz with kind := K } from ⟨rfl, rfl⟩)
  obtain ⟨p0, p1, p2, p3, p4, p5, p6, p7⟩ := dcs hw.out E.out.b0
  have ff := fun i => E.out.b0.frozen i
  have hlt := E.out.b0.lt
  go_wp2_with (fail)
  clear p0 p1 p2 p3 p4 p5 p6 p7 ff hlt
  replace E := Lib.hid (E.out.state HA.out)
  refine (csh K 1 _).mono ?_
  rintro e w9 ⟨rfl, hb9⟩
  rw [hasD_E K, FE]
  replace E := Lib.hid (E.out.below hb9)
  clear hb9
  obtain ⟨p0, p1, p2, p3, p4, p5, p6, p7⟩ := dcs hw.out E.out.b0
  have ff := fun i => E.out.b0.frozen i
  have hlt := E.out.b0.lt
  go_wp2_with (fail)
  clear p0 p1 p2 p3 p4 p5 p6 p7 ff hlt
  refine (csh K 2 _).mono ?_
  rintro e w9 ⟨rfl, hb9⟩
  rw [hasD_N K, FN]
  replace E := Lib.hid (E.out.below hb9)
  clear hb9
  obtain ⟨p0, p1, p2, p3, p4, p5, p6, p7⟩ := dcs hw.out E.out.b0
  have ff := fun i => E.out.b0.frozen i
  have hlt := E.out.b0.lt
  go_wp2_with (fail)
  clear p0 p1 p2 p3 p4 p5 p6 p7 ff hlt
  refine (csh K 4 _).mono ?_
  rintro e w9 ⟨rfl, hb9⟩
  rw [hasD_D K, FD]
  replace E := Lib.hid (E.out.below hb9)
  clear hb9
  go_wp2_with (fail)
  refine (c_octet_RNum p _ 5 _ E.out.rd).mono ?_
  rintro e w9 ⟨rfl, hr9, hk9⟩
  rw [← HD.out]
  replace E := Lib.hid ((E.out.call hr9 hk9).state (show _ = ddB st from rfl))
  clear hr9 hk9
  obtain ⟨p0, p1, p2, p3, p4, p5, p6, p7⟩ := dcs hw.out E.out.b0
  have ff := fun i => E.out.b0.frozen i
  have hlt := E.out.b0.lt
  go_wp2_with (fail)
  clear p0 p1 p2 p3 p4 p5 p6 p7 ff hlt
  replace E := Lib.hid ((E.out.store0 2 (.int .i64 D)).as (show _ = Deed.arr { dz with kind := K, dev := D } wz from by have := Deed.setI hw.out (q := wz) 2 (by omega) D; simpa using this))
  replace hw := Lib.hid (show Deed.wf { dz with kind := K, dev := D } from ⟨hw.out.e, hw.out.p⟩)
  refine (csh K 8 _).mono ?_
  rintro e w9 ⟨rfl, hb9⟩
  rw [hasD_F K, FF]
  replace E := Lib.hid (E.out.below hb9)
  clear hb9
  obtain ⟨p0, p1, p2, p3, p4, p5, p6, p7⟩ := dcs hw.out E.out.b0
  have ff := fun i => E.out.b0.frozen i
  have hlt := E.out.b0.lt
  go_wp2_with (fail)
  clear p0 p1 p2 p3 p4 p5 p6 p7 ff hlt
  refine (csh K 16 _).mono ?_
  rintro e w9 ⟨rfl, hb9⟩
  rw [hasD_W K, FW]
  replace E := Lib.hid (E.out.below hb9)
  clear hb9
  obtain ⟨p0, p1, p2, p3, p4, p5, p6, p7⟩ := dcs hw.out E.out.b0
  have ff := fun i => E.out.b0.frozen i
  have hlt := E.out.b0.lt
  go_wp2_with (fail)
  clear p0 p1 p2 p3 p4 p5 p6 p7 ff hlt
  refine (csh K 32 _).mono ?_
  rintro e w9 ⟨rfl, hb9⟩
  rw [hasD_K K, FK]
  replace E := Lib.hid (E.out.below hb9)
  clear hb9
  obtain ⟨p0, p1, p2, p3, p4, p5, p6, p7⟩ := dcs hw.out E.out.b0
  have ff := fun i => E.out.b0.frozen i
  have hlt := E.out.b0.lt
  go_wp2_with (fail)
  clear p0 p1 p2 p3 p4 p5 p6 p7 ff hlt
  refine (csh K 64 _).mono ?_
  rintro e w9 ⟨rfl, hb9⟩
  rw [hasD_T K, FT]
  replace E := Lib.hid (E.out.below hb9)
  clear hb9
  obtain ⟨p0, p1, p2, p3, p4, p5, p6, p7⟩ := dcs hw.out E.out.b0
  have ff := fun i => E.out.b0.frozen i
  have hlt := E.out.b0.lt
  go_wp2_with (with_reducible refine stop_load 45 (.tmp 3) rfl rfl ?_)
  clear p0 p1 p2 p3 p4 p5 p6 p7 ff hlt
  refine Stop.mk (wpList_loadB rfl _ _ rfl G rfl _ E.out.b0 strOp (Deed.arr_size hw.out) ?_)
  go_wp2_with (with_reducible refine stS 45 (.tmp 2) (.tmp 81) rfl rfl ?_)
  refine Stop.mk (wsB rfl _ _ _ rfl w.heap.size _ rfl rfl _ E.out.b1 strOp (Deed.arr_size hw.out) (by rw [Deed.arr_size hw.out]; rfl) (Deed.arr_ones hw.out) ?_)
  intro w99 hb99 hk99
  replace E := Lib.hid ((E.out.put1 hb99 hk99).state (show _ = rdDeed' st by rw [X1.out]))
  clear hk99
  go_wp2_with (fail)
  rw [X2.out]
  exact bodyPost_ret (results_B rfl rfl hb99 strOp (Deed.arr_size hw.out)) rfl ⟨wz, rfl, World.ownsRow_nil _ _ _ _, World.ownsRow_nil _ _ _ _, E.out.rd, E.out.kept⟩
set_option maxHeartbeats 40000000 in
set_option maxRecDepth 10000 in
theorem script_read_T (p : Option Nat) (st : Rd) (w : World) (hT : Tab w) (hr : RdP w p st) (hk0 : ddK st = 12) : Calls Tryz.prog 11 #[ptr p] w (RetPD p (rdDeed' st) w (rdDeed st)) := by
  obtain ⟨x1, x2⟩ := dd_12 hk0
  obtain ⟨K, hK⟩ : ∃ K, K = ddK st := ⟨_, rfl⟩
  obtain ⟨D, hD⟩ : ∃ D, D = rdS (ddA st) 4096 := ⟨_, rfl⟩
  have HD := Lib.hid hD
  rw [← hK] at hk0
  have FE : dE K = false := by unfold dE; simp; omega
  have FN : dN K = false := by unfold dN; simp; omega
  have FD : dD K = false := by unfold dD; simp; omega
  have FF : dF K = false := by unfold dF; simp; omega
  have FW : dW K = false := by unfold dW; simp; omega
  have FK : dK K = false := by unfold dK; simp; omega
  have FT : dT K = true := by unfold dT; simp; omega
  have j0 : (K == 0) = false := by simp; omega
  have X1 := Lib.hid x1
  have X2 := Lib.hid (show rdDeed st = { dz with kind := K, text := D } by rw [x2, hk0, hD])
  have HK := Lib.hid (show rdN st 12 = K from hK.symm)
  have HA := Lib.hid (show rdN' st 12 = ddA st from (rdAb'_pos (by rw [show rdN st 12 = ddK st from rfl, ← hK]; omega)).symm)
  have hpT := Lib.hid (hr.tab hT)
  have HT := Lib.hid hT
  have HRD := Lib.hid hr
  clear x1 hk0 hr hT hK x2 hD
  go_enter Tryz.func11, Tryz.ntmps11
  go_wp2_with (with_reducible refine stop_callS _ rfl ?_)
  refine Stop.mk (EnvP.go HRD.out ?_)
  intro w00 he00 hz00
  have E := Lib.hid he00
  clear he00
  go_wp2_with (fail)
  refine (c_octet_RNum p st 12 _ E.out.rd).mono ?_
  rintro e w6 ⟨rfl, hr6, hk6⟩
  rw [HK.out]
  have hz6 := hk6.size
  replace E := Lib.hid (E.out.call hr6 hk6)
  clear hr6 hk6
  go_wp2_with (with_reducible refine stop_build 45 _ rfl ?_)
  refine Stop.mk (wpList_buildD rfl _ _ rfl [(0, .int .i64 K)] (by rfl) (Deed.arr { dz with kind := K } wz) (built_kind K) ?_)
  go_wp2_with (with_reducible refine stS 45 (.tmp 3) (.tmp 6) rfl rfl ?_)
  refine Stop.mk (wsB rfl _ _ _ rfl w6.heap.size _ (by first | rfl | simp) rfl _ (Blk.new _ _ _) strOp (Deed.arr_size ⟨rfl, rfl⟩) (by rw [Deed.arr_size ⟨rfl, rfl⟩]; rfl) (Deed.arr_ones ⟨rfl, rfl⟩) ?_)
  intro w7 hb7 hk7
  replace E := Lib.hid ((E.out.alloc 45 _).put0 hb7 hk7)
  obtain ⟨G, hG⟩ : ∃ g, g = w6.heap.size := ⟨_, rfl⟩
  have HG := Lib.hid (show w.heap.size < G by omega)
  rw [← hG] at E ⊢
  clear hb7 hk7 hG hz6 hz00
  have hw := Lib.hid (show Deed.wf { dz with kind := K } from ⟨rfl, rfl⟩)
  obtain ⟨p0, p1, p2, p3, p4, p5, p6, p7⟩ := dcs hw.out E.out.b0
  have ff := fun i => E.out.b0.frozen i
  have hlt := E.out.b0.lt
  go_wp2_with (fail)
  clear p0 p1 p2 p3 p4 p5 p6 p7 ff hlt
  replace E := Lib.hid (E.out.state HA.out)
  refine (csh K 1 _).mono ?_
  rintro e w9 ⟨rfl, hb9⟩
  rw [hasD_E K, FE]
  replace E := Lib.hid (E.out.below hb9)
  clear hb9
  obtain ⟨p0, p1, p2, p3, p4, p5, p6, p7⟩ := dcs hw.out E.out.b0
  have ff := fun i => E.out.b0.frozen i
  have hlt := E.out.b0.lt
  go_wp2_with (fail)
  clear p0 p1 p2 p3 p4 p5 p6 p7 ff hlt
  refine (csh K 2 _).mono ?_
  rintro e w9 ⟨rfl, hb9⟩
  rw [hasD_N K, FN]
  replace E := Lib.hid (E.out.below hb9)
  clear hb9
  obtain ⟨p0, p1, p2, p3, p4, p5, p6, p7⟩ := dcs hw.out E.out.b0
  have ff := fun i => E.out.b0.frozen i
  have hlt := E.out.b0.lt
  go_wp2_with (fail)
  clear p0 p1 p2 p3 p4 p5 p6 p7 ff hlt
  refine (csh K 4 _).mono ?_
  rintro e w9 ⟨rfl, hb9⟩
  rw [hasD_D K, FD]
  replace E := Lib.hid (E.out.below hb9)
  clear hb9
  obtain ⟨p0, p1, p2, p3, p4, p5, p6, p7⟩ := dcs hw.out E.out.b0
  have ff := fun i => E.out.b0.frozen i
  have hlt := E.out.b0.lt
  go_wp2_with (fail)
  clear p0 p1 p2 p3 p4 p5 p6 p7 ff hlt
  refine (csh K 8 _).mono ?_
  rintro e w9 ⟨rfl, hb9⟩
  rw [hasD_F K, FF]
  replace E := Lib.hid (E.out.below hb9)
  clear hb9
  obtain ⟨p0, p1, p2, p3, p4, p5, p6, p7⟩ := dcs hw.out E.out.b0
  have ff := fun i => E.out.b0.frozen i
  have hlt := E.out.b0.lt
  go_wp2_with (fail)
  clear p0 p1 p2 p3 p4 p5 p6 p7 ff hlt
  refine (csh K 16 _).mono ?_
  rintro e w9 ⟨rfl, hb9⟩
  rw [hasD_W K, FW]
  replace E := Lib.hid (E.out.below hb9)
  clear hb9
  obtain ⟨p0, p1, p2, p3, p4, p5, p6, p7⟩ := dcs hw.out E.out.b0
  have ff := fun i => E.out.b0.frozen i
  have hlt := E.out.b0.lt
  go_wp2_with (fail)
  clear p0 p1 p2 p3 p4 p5 p6 p7 ff hlt
  refine (csh K 32 _).mono ?_
  rintro e w9 ⟨rfl, hb9⟩
  rw [hasD_K K, FK]
  replace E := Lib.hid (E.out.below hb9)
  clear hb9
  obtain ⟨p0, p1, p2, p3, p4, p5, p6, p7⟩ := dcs hw.out E.out.b0
  have ff := fun i => E.out.b0.frozen i
  have hlt := E.out.b0.lt
  go_wp2_with (fail)
  clear p0 p1 p2 p3 p4 p5 p6 p7 ff hlt
  refine (csh K 64 _).mono ?_
  rintro e w9 ⟨rfl, hb9⟩
  rw [hasD_T K, FT]
  replace E := Lib.hid (E.out.below hb9)
  clear hb9
  go_wp2_with (fail)
  refine (c_octet_RStr p _ 4096 _ E.out.rd).mono ?_
  rintro e w9 ⟨rfl, hr9, hk9⟩
  rw [← HD.out]
  replace E := Lib.hid ((E.out.call hr9 hk9).state (show _ = rdS' (ddA st) 4096 from rfl))
  clear hr9 hk9
  obtain ⟨p0, p1, p2, p3, p4, p5, p6, p7⟩ := dcs hw.out E.out.b0
  have ff := fun i => E.out.b0.frozen i
  have hlt := E.out.b0.lt
  go_wp2_with (with_reducible refine stop_load 45 (.tmp 3) rfl rfl ?_)
  clear p0 p1 p2 p3 p4 p5 p6 p7 ff hlt
  replace E := Lib.hid ((E.out.store0 62 (.string (str D))).as (show _ = Deed.arr { dz with kind := K, text := D } wz from by exact Deed.setT hw.out D))
  replace hw := Lib.hid (show Deed.wf { dz with kind := K, text := D } from ⟨hw.out.e, hw.out.p⟩)
  refine Stop.mk (wpList_loadB rfl _ _ rfl G rfl _ E.out.b0 strOp (Deed.arr_size hw.out) ?_)
  go_wp2_with (with_reducible refine stS 45 (.tmp 2) (.tmp 81) rfl rfl ?_)
  refine Stop.mk (wsB rfl _ _ _ rfl w.heap.size _ rfl rfl _ E.out.b1 strOp (Deed.arr_size hw.out) (by rw [Deed.arr_size hw.out]; rfl) (Deed.arr_ones hw.out) ?_)
  intro w99 hb99 hk99
  replace E := Lib.hid ((E.out.put1 hb99 hk99).state (show _ = rdDeed' st by rw [X1.out]))
  clear hk99
  go_wp2_with (fail)
  rw [X2.out]
  exact bodyPost_ret (results_B rfl rfl hb99 strOp (Deed.arr_size hw.out)) rfl ⟨wz, rfl, World.ownsRow_nil _ _ _ _, World.ownsRow_nil _ _ _ _, E.out.rd, E.out.kept⟩
end Go.Proofs.YtiedkcijjfmhaaaGreatDoor
namespace Go.Proofs.YtiedkcijjfmhaaaGreatDoor
open Go.RowKit

set_option maxHeartbeats 40000000 in
set_option maxRecDepth 10000 in
theorem script_read_E (p : Option Nat) (st : Rd) (w : World) (hT : Tab w) (hr : RdP w p st) (hk0 : ddK st = 1) : Calls Tryz.prog 11 #[ptr p] w (RetPD p (rdDeed' st) w (rdDeed st)) := by
  obtain ⟨x1, x2⟩ := dd_1 hk0
  obtain ⟨K, hK⟩ : ∃ K, K = ddK st := ⟨_, rfl⟩
  obtain ⟨D, hD⟩ : ∃ D, D = rdEdit (ddA st) := ⟨_, rfl⟩
  have HD := Lib.hid hD
  rw [← hK] at hk0
  have FE : dE K = true := by unfold dE; simp; omega
  have FN : dN K = false := by unfold dN; simp; omega
  have FD : dD K = false := by unfold dD; simp; omega
  have FF : dF K = false := by unfold dF; simp; omega
  have FW : dW K = false := by unfold dW; simp; omega
  have FK : dK K = false := by unfold dK; simp; omega
  have FT : dT K = false := by unfold dT; simp; omega
  have j0 : (K == 0) = false := by simp; omega
  have X1 := Lib.hid x1
  have X2 := Lib.hid (show rdDeed st = { dz with kind := K, e := D } by rw [x2, hk0, hD])
  have HK := Lib.hid (show rdN st 12 = K from hK.symm)
  have HA := Lib.hid (show rdN' st 12 = ddA st from (rdAb'_pos (by rw [show rdN st 12 = ddK st from rfl, ← hK]; omega)).symm)
  have hpT := Lib.hid (hr.tab hT)
  have HT := Lib.hid hT
  have HRD := Lib.hid hr
  have HL := Lib.hid (show D.p.f.length = 8 by rw [hD]; exact rdEdit_len _)
  clear x1 hk0 hr hT hK x2 hD
  go_enter Tryz.func11, Tryz.ntmps11
  go_wp2_with (with_reducible refine stop_callS _ rfl ?_)
  refine Stop.mk (EnvP.go HRD.out ?_)
  intro w00 he00 hz00
  have E := Lib.hid he00
  clear he00
  go_wp2_with (fail)
  refine (c_octet_RNum p st 12 _ E.out.rd).mono ?_
  rintro e w6 ⟨rfl, hr6, hk6⟩
  rw [HK.out]
  have hz6 := hk6.size
  replace E := Lib.hid (E.out.call hr6 hk6)
  clear hr6 hk6
  go_wp2_with (with_reducible refine stop_build 45 _ rfl ?_)
  refine Stop.mk (wpList_buildD rfl _ _ rfl [(0, .int .i64 K)] (by rfl) (Deed.arr { dz with kind := K } wz) (built_kind K) ?_)
  go_wp2_with (with_reducible refine stS 45 (.tmp 3) (.tmp 6) rfl rfl ?_)
  refine Stop.mk (wsB rfl _ _ _ rfl w6.heap.size _ (by first | rfl | simp) rfl _ (Blk.new _ _ _) strOp (Deed.arr_size ⟨rfl, rfl⟩) (by rw [Deed.arr_size ⟨rfl, rfl⟩]; rfl) (Deed.arr_ones ⟨rfl, rfl⟩) ?_)
  intro w7 hb7 hk7
  replace E := Lib.hid ((E.out.alloc 45 _).put0 hb7 hk7)
  obtain ⟨G, hG⟩ : ∃ g, g = w6.heap.size := ⟨_, rfl⟩
  have HG := Lib.hid (show w.heap.size < G by omega)
  rw [← hG] at E ⊢
  clear hb7 hk7 hG hz6 hz00
  have hw := Lib.hid (show Deed.wf { dz with kind := K } from ⟨rfl, rfl⟩)
  obtain ⟨p0, p1, p2, p3, p4, p5, p6, p7⟩ := dcs hw.out E.out.b0
  have ff := fun i => E.out.b0.frozen i
  have hlt := E.out.b0.lt
  go_wp2_with (fail)
  clear p0 p1 p2 p3 p4 p5 p6 p7 ff hlt
  replace E := Lib.hid (E.out.state HA.out)
  refine (csh K 1 _).mono ?_
  rintro e w9 ⟨rfl, hb9⟩
  rw [hasD_E K, FE]
  replace E := Lib.hid (E.out.below hb9)
  clear hb9
  have HTw := Lib.hid (HT.out.kept E.out.kept hpT.out)
  go_wp2_with (fail)
  refine (c_edit_Read p _ _ HTw.out E.out.rd).mono ?_
  rintro e w9 ⟨rfl, hr9, hk9⟩
  rw [← HD.out]
  replace E := Lib.hid ((E.out.call hr9 hk9).state (show _ = rdEdit' (ddA st) from rfl))
  clear hr9 hk9
  go_wp2_with (with_reducible refine stS 41 (.tmp 17) (.tmp 16) rfl rfl ?_)
  refine Stop.mk (wpList_storeAt rfl _ _ _ rfl G 4 D.arr rfl rfl _ E.out.b0 strE (Edit.sizeE HL.out) (by rw [Edit.sizeE HL.out, Deed.arr_size hw.out]; decide) (Edit.arr_one _) ?_)
  intro w20 hb20 hk20
  replace E := Lib.hid (E.out.put0 (show Blk w20 G (Deed.arr { dz with kind := K, e := D } wz) by rw [← Deed.putE hw.out D HL.out]; exact hb20) hk20)
  replace hw := Lib.hid (show Deed.wf { dz with kind := K, e := D } from ⟨HL.out, hw.out.p⟩)
  clear hb20 hk20
  clear HTw
  obtain ⟨p0, p1, p2, p3, p4, p5, p6, p7⟩ := dcs hw.out E.out.b0
  have ff := fun i => E.out.b0.frozen i
  have hlt := E.out.b0.lt
  go_wp2_with (fail)
  clear p0 p1 p2 p3 p4 p5 p6 p7 ff hlt
  refine (csh K 2 _).mono ?_
  rintro e w9 ⟨rfl, hb9⟩
  rw [hasD_N K, FN]
  replace E := Lib.hid (E.out.below hb9)
  clear hb9
  obtain ⟨p0, p1, p2, p3, p4, p5, p6, p7⟩ := dcs hw.out E.out.b0
  have ff := fun i => E.out.b0.frozen i
  have hlt := E.out.b0.lt
  go_wp2_with (fail)
  clear p0 p1 p2 p3 p4 p5 p6 p7 ff hlt
  refine (csh K 4 _).mono ?_
  rintro e w9 ⟨rfl, hb9⟩
  rw [hasD_D K, FD]
  replace E := Lib.hid (E.out.below hb9)
  clear hb9
  obtain ⟨p0, p1, p2, p3, p4, p5, p6, p7⟩ := dcs hw.out E.out.b0
  have ff := fun i => E.out.b0.frozen i
  have hlt := E.out.b0.lt
  go_wp2_with (fail)
  clear p0 p1 p2 p3 p4 p5 p6 p7 ff hlt
  refine (csh K 8 _).mono ?_
  rintro e w9 ⟨rfl, hb9⟩
  rw [hasD_F K, FF]
  replace E := Lib.hid (E.out.below hb9)
  clear hb9
  obtain ⟨p0, p1, p2, p3, p4, p5, p6, p7⟩ := dcs hw.out E.out.b0
  have ff := fun i => E.out.b0.frozen i
  have hlt := E.out.b0.lt
  go_wp2_with (fail)
  clear p0 p1 p2 p3 p4 p5 p6 p7 ff hlt
  refine (csh K 16 _).mono ?_
  rintro e w9 ⟨rfl, hb9⟩
  rw [hasD_W K, FW]
  replace E := Lib.hid (E.out.below hb9)
  clear hb9
  obtain ⟨p0, p1, p2, p3, p4, p5, p6, p7⟩ := dcs hw.out E.out.b0
  have ff := fun i => E.out.b0.frozen i
  have hlt := E.out.b0.lt
  go_wp2_with (fail)
  clear p0 p1 p2 p3 p4 p5 p6 p7 ff hlt
  refine (csh K 32 _).mono ?_
  rintro e w9 ⟨rfl, hb9⟩
  rw [hasD_K K, FK]
  replace E := Lib.hid (E.out.below hb9)
  clear hb9
  obtain ⟨p0, p1, p2, p3, p4, p5, p6, p7⟩ := dcs hw.out E.out.b0
  have ff := fun i => E.out.b0.frozen i
  have hlt := E.out.b0.lt
  go_wp2_with (fail)
  clear p0 p1 p2 p3 p4 p5 p6 p7 ff hlt
  refine (csh K 64 _).mono ?_
  rintro e w9 ⟨rfl, hb9⟩
  rw [hasD_T K, FT]
  replace E := Lib.hid (E.out.below hb9)
  clear hb9
  obtain ⟨p0, p1, p2, p3, p4, p5, p6, p7⟩ := dcs hw.out E.out.b0
  have ff := fun i => E.out.b0.frozen i
  have hlt := E.out.b0.lt
  go_wp2_with (with_reducible refine stop_load 45 (.tmp 3) rfl rfl ?_)
  clear p0 p1 p2 p3 p4 p5 p6 p7 ff hlt
  refine Stop.mk (wpList_loadB rfl _ _ rfl G rfl _ E.out.b0 strOp (Deed.arr_size hw.out) ?_)
  go_wp2_with (with_reducible refine stS 45 (.tmp 2) (.tmp 81) rfl rfl ?_)
  refine Stop.mk (wsB rfl _ _ _ rfl w.heap.size _ rfl rfl _ E.out.b1 strOp (Deed.arr_size hw.out) (by rw [Deed.arr_size hw.out]; rfl) (Deed.arr_ones hw.out) ?_)
  intro w99 hb99 hk99
  replace E := Lib.hid ((E.out.put1 hb99 hk99).state (show _ = rdDeed' st by rw [X1.out]))
  clear hk99
  go_wp2_with (fail)
  rw [X2.out]
  exact bodyPost_ret (results_B rfl rfl hb99 strOp (Deed.arr_size hw.out)) rfl ⟨wz, rfl, World.ownsRow_nil _ _ _ _, World.ownsRow_nil _ _ _ _, E.out.rd, E.out.kept⟩
set_option maxHeartbeats 40000000 in
set_option maxRecDepth 10000 in
theorem script_read_F (p : Option Nat) (st : Rd) (w : World) (hT : Tab w) (hr : RdP w p st) (hk0 : ddK st = 3) : Calls Tryz.prog 11 #[ptr p] w (RetPD p (rdDeed' st) w (rdDeed st)) := by
  obtain ⟨x1, x2⟩ := dd_3 hk0
  obtain ⟨K, hK⟩ : ∃ K, K = ddK st := ⟨_, rfl⟩
  obtain ⟨D, hD⟩ : ∃ D, D = rdN (ddA st) 5 := ⟨_, rfl⟩
  have HD := Lib.hid hD
  obtain ⟨F, hF⟩ : ∃ D, D = rdPred (ddB st) := ⟨_, rfl⟩
  have HF := Lib.hid hF
  obtain ⟨M, hM⟩ : ∃ D : Nat, (D : Int) = rdN (ddF st) 511 := ⟨(rdN (ddF st) 511).toNat, by have := rdN_bd (ddF st) 511; omega⟩
  have HM := Lib.hid hM
  rw [← hK] at hk0
  have FE : dE K = false := by unfold dE; simp; omega
  have FN : dN K = false := by unfold dN; simp; omega
  have FD : dD K = true := by unfold dD; simp; omega
  have FF : dF K = true := by unfold dF; simp; omega
  have FW : dW K = false := by unfold dW; simp; omega
  have FK : dK K = false := by unfold dK; simp; omega
  have FT : dT K = false := by unfold dT; simp; omega
  have j0 : (K == 0) = false := by simp; omega
  have X1 := Lib.hid x1
  have X2 := Lib.hid (show rdDeed st = { dz with kind := K, dev := D, f := F, mask := M } by rw [x2, hk0, hD, hF, ← hM, Int.toNat_natCast])
  have HK := Lib.hid (show rdN st 12 = K from hK.symm)
  have HA := Lib.hid (show rdN' st 12 = ddA st from (rdAb'_pos (by rw [show rdN st 12 = ddK st from rfl, ← hK]; omega)).symm)
  have hpT := Lib.hid (hr.tab hT)
  have HT := Lib.hid hT
  have HRD := Lib.hid hr
  have hmb := rdN_bd (ddF st) 511
  rw [← hM] at hmb
  have hmi : IntKind.u32.wrap (M : Int) = (M : Int) := by rw [wrap_u32']; omega
  clear x1 hk0 hr hT hK x2 hD hF hM
  go_enter Tryz.func11, Tryz.ntmps11
  go_wp2_with (with_reducible refine stop_callS _ rfl ?_)
  refine Stop.mk (EnvP.go HRD.out ?_)
  intro w00 he00 hz00
  have E := Lib.hid he00
  clear he00
  go_wp2_with (fail)
  refine (c_octet_RNum p st 12 _ E.out.rd).mono ?_
  rintro e w6 ⟨rfl, hr6, hk6⟩
  rw [HK.out]
  have hz6 := hk6.size
  replace E := Lib.hid (E.out.call hr6 hk6)
  clear hr6 hk6
  go_wp2_with (with_reducible refine stop_build 45 _ rfl ?_)
  refine Stop.mk (wpList_buildD rfl _ _ rfl [(0, .int .i64 K)] (by rfl) (Deed.arr { dz with kind := K } wz) (built_kind K) ?_)
  go_wp2_with (with_reducible refine stS 45 (.tmp 3) (.tmp 6) rfl rfl ?_)
  refine Stop.mk (wsB rfl _ _ _ rfl w6.heap.size _ (by first | rfl | simp) rfl _ (Blk.new _ _ _) strOp (Deed.arr_size ⟨rfl, rfl⟩) (by rw [Deed.arr_size ⟨rfl, rfl⟩]; rfl) (Deed.arr_ones ⟨rfl, rfl⟩) ?_)
  intro w7 hb7 hk7
  replace E := Lib.hid ((E.out.alloc 45 _).put0 hb7 hk7)
  obtain ⟨G, hG⟩ : ∃ g, g = w6.heap.size := ⟨_, rfl⟩
  have HG := Lib.hid (show w.heap.size < G by omega)
  rw [← hG] at E ⊢
  clear hb7 hk7 hG hz6 hz00
  have hw := Lib.hid (show Deed.wf { dz with kind := K } from ⟨rfl, rfl⟩)
  obtain ⟨p0, p1, p2, p3, p4, p5, p6, p7⟩ := dcs hw.out E.out.b0
  have ff := fun i => E.out.b0.frozen i
  have hlt := E.out.b0.lt
  go_wp2_with (fail)
  clear p0 p1 p2 p3 p4 p5 p6 p7 ff hlt
  replace E := Lib.hid (E.out.state HA.out)
  refine (csh K 1 _).mono ?_
  rintro e w9 ⟨rfl, hb9⟩
  rw [hasD_E K, FE]
  replace E := Lib.hid (E.out.below hb9)
  clear hb9
  obtain ⟨p0, p1, p2, p3, p4, p5, p6, p7⟩ := dcs hw.out E.out.b0
  have ff := fun i => E.out.b0.frozen i
  have hlt := E.out.b0.lt
  go_wp2_with (fail)
  clear p0 p1 p2 p3 p4 p5 p6 p7 ff hlt
  refine (csh K 2 _).mono ?_
  rintro e w9 ⟨rfl, hb9⟩
  rw [hasD_N K, FN]
  replace E := Lib.hid (E.out.below hb9)
  clear hb9
  obtain ⟨p0, p1, p2, p3, p4, p5, p6, p7⟩ := dcs hw.out E.out.b0
  have ff := fun i => E.out.b0.frozen i
  have hlt := E.out.b0.lt
  go_wp2_with (fail)
  clear p0 p1 p2 p3 p4 p5 p6 p7 ff hlt
  refine (csh K 4 _).mono ?_
  rintro e w9 ⟨rfl, hb9⟩
  rw [hasD_D K, FD]
  replace E := Lib.hid (E.out.below hb9)
  clear hb9
  go_wp2_with (fail)
  refine (c_octet_RNum p _ 5 _ E.out.rd).mono ?_
  rintro e w9 ⟨rfl, hr9, hk9⟩
  rw [← HD.out]
  replace E := Lib.hid ((E.out.call hr9 hk9).state (show _ = ddB st from rfl))
  clear hr9 hk9
  obtain ⟨p0, p1, p2, p3, p4, p5, p6, p7⟩ := dcs hw.out E.out.b0
  have ff := fun i => E.out.b0.frozen i
  have hlt := E.out.b0.lt
  go_wp2_with (fail)
  clear p0 p1 p2 p3 p4 p5 p6 p7 ff hlt
  replace E := Lib.hid ((E.out.store0 2 (.int .i64 D)).as (show _ = Deed.arr { dz with kind := K, dev := D } wz from by have := Deed.setI hw.out (q := wz) 2 (by omega) D; simpa using this))
  replace hw := Lib.hid (show Deed.wf { dz with kind := K, dev := D } from ⟨hw.out.e, hw.out.p⟩)
  refine (csh K 8 _).mono ?_
  rintro e w9 ⟨rfl, hb9⟩
  rw [hasD_F K, FF]
  replace E := Lib.hid (E.out.below hb9)
  clear hb9
  go_wp2_with (fail)
  have hG1 := E.out.b0.lt
  refine (c_predwire_Read p _ _ E.out.rd).mono ?_
  rintro e w9 ⟨v9, rfl, own9, hr9, hk9⟩
  rw [← HF.out] at own9
  replace E := Lib.hid ((E.out.call hr9 hk9).state (show _ = ddF st from rfl))
  obtain ⟨A1, n1, rfl, -⟩ := own_form own9
  have O := Lib.hid (own_base own9 hG1)
  have HO := Lib.hid (show G < G + 1 by omega)
  clear hr9 hk9 own9 hG1
  obtain ⟨p0, p1, p2, p3, p4, p5, p6, p7⟩ := dcs hw.out E.out.b0
  have ff := fun i => E.out.b0.frozen i
  have hlt := E.out.b0.lt
  go_wp2_with (fail)
  clear p0 p1 p2 p3 p4 p5 p6 p7 ff hlt
  replace O := Lib.hid (own_kept O.out (kept_set _ G 33 (.slice A1 F.length n1)) (fun g hg => by injection hg with hg; have := HO.out; omega))
  replace E := Lib.hid ((E.out.store0 33 (.slice A1 F.length n1)).as (show _ = Deed.arr { dz with kind := K, dev := D, f := F } ⟨A1, n1, none, 0⟩ from by exact Deed.setF hw.out A1 F n1))
  replace hw := Lib.hid (show Deed.wf { dz with kind := K, dev := D, f := F } from ⟨hw.out.e, hw.out.p⟩)
  refine (c_octet_RNum p _ 511 _ E.out.rd).mono ?_
  rintro e w9 ⟨rfl, hr9, hk9⟩
  rw [← HM.out]
  replace O := Lib.hid (own_kept O.out hk9 (fun g hg => by have := E.out.low g hg; have := HG.out; have := HO.out; omega))
  replace E := Lib.hid ((E.out.call hr9 hk9).state (show _ = rdN' (ddF st) 511 from rfl))
  clear hr9 hk9
  obtain ⟨p0, p1, p2, p3, p4, p5, p6, p7⟩ := dcs hw.out E.out.b0
  have ff := fun i => E.out.b0.frozen i
  have hlt := E.out.b0.lt
  go_wp2_with (fail)
  clear p0 p1 p2 p3 p4 p5 p6 p7 ff hlt
  replace O := Lib.hid (own_kept O.out (kept_set _ G 34 (.int .u32 M)) (fun g hg => by injection hg with hg; have := HO.out; omega))
  replace E := Lib.hid ((E.out.store0 34 (.int .u32 M)).as (show _ = Deed.arr { dz with kind := K, dev := D, f := F, mask := M } ⟨A1, n1, none, 0⟩ from by exact Deed.setM hw.out M))
  replace hw := Lib.hid (show Deed.wf { dz with kind := K, dev := D, f := F, mask := M } from ⟨hw.out.e, hw.out.p⟩)
  refine (csh K 16 _).mono ?_
  rintro e w9 ⟨rfl, hb9⟩
  rw [hasD_W K, FW]
  replace O := Lib.hid (own_below O.out hb9)
  replace E := Lib.hid (E.out.below hb9)
  clear hb9
  obtain ⟨p0, p1, p2, p3, p4, p5, p6, p7⟩ := dcs hw.out E.out.b0
  have ff := fun i => E.out.b0.frozen i
  have hlt := E.out.b0.lt
  go_wp2_with (fail)
  clear p0 p1 p2 p3 p4 p5 p6 p7 ff hlt
  refine (csh K 32 _).mono ?_
  rintro e w9 ⟨rfl, hb9⟩
  rw [hasD_K K, FK]
  replace O := Lib.hid (own_below O.out hb9)
  replace E := Lib.hid (E.out.below hb9)
  clear hb9
  obtain ⟨p0, p1, p2, p3, p4, p5, p6, p7⟩ := dcs hw.out E.out.b0
  have ff := fun i => E.out.b0.frozen i
  have hlt := E.out.b0.lt
  go_wp2_with (fail)
  clear p0 p1 p2 p3 p4 p5 p6 p7 ff hlt
  refine (csh K 64 _).mono ?_
  rintro e w9 ⟨rfl, hb9⟩
  rw [hasD_T K, FT]
  replace O := Lib.hid (own_below O.out hb9)
  replace E := Lib.hid (E.out.below hb9)
  clear hb9
  obtain ⟨p0, p1, p2, p3, p4, p5, p6, p7⟩ := dcs hw.out E.out.b0
  have ff := fun i => E.out.b0.frozen i
  have hlt := E.out.b0.lt
  go_wp2_with (with_reducible refine stop_load 45 (.tmp 3) rfl rfl ?_)
  clear p0 p1 p2 p3 p4 p5 p6 p7 ff hlt
  refine Stop.mk (wpList_loadB rfl _ _ rfl G rfl _ E.out.b0 strOp (Deed.arr_size hw.out) ?_)
  go_wp2_with (with_reducible refine stS 45 (.tmp 2) (.tmp 81) rfl rfl ?_)
  refine Stop.mk (wsB rfl _ _ _ rfl w.heap.size _ rfl rfl _ E.out.b1 strOp (Deed.arr_size hw.out) (by rw [Deed.arr_size hw.out]; rfl) (Deed.arr_ones hw.out) ?_)
  intro w99 hb99 hk99
  replace O := Lib.hid (own_kept O.out hk99 (fun g hg => by injection hg with hg; have := HG.out; have := HO.out; omega))
  replace E := Lib.hid ((E.out.put1 hb99 hk99).state (show _ = rdDeed' st by rw [X1.out]))
  clear hk99
  go_wp2_with (fail)
  rw [X2.out]
  exact bodyPost_ret (results_B rfl rfl hb99 strOp (Deed.arr_size hw.out)) rfl ⟨⟨A1, n1, none, 0⟩, rfl, own_base O.out (by have := HG.out; have := HO.out; omega), World.ownsRow_nil _ _ _ _, E.out.rd, E.out.kept⟩
end Go.Proofs.YtiedkcijjfmhaaaGreatDoor
namespace Go.Proofs.YtiedkcijjfmhaaaGreatDoor
open Go.RowKit

set_option maxHeartbeats 40000000 in
set_option maxRecDepth 10000 in
theorem script_read_K (p : Option Nat) (st : Rd) (w : World) (hT : Tab w) (hr : RdP w p st) (hk0 : ddK st = 11) : Calls Tryz.prog 11 #[ptr p] w (RetPD p (rdDeed' st) w (rdDeed st)) := by
  obtain ⟨x1, x2⟩ := dd_11 hk0
  have hcN : ddC st = (rdN (ddA st) 40).toNat := rfl
  obtain ⟨K, hK⟩ : ∃ K, K = ddK st := ⟨_, rfl⟩
  obtain ⟨N, hN⟩ : ∃ D : Nat, (D : Int) = rdN (ddA st) 40 := ⟨(rdN (ddA st) 40).toNat, by have := rdN_bd (ddA st) 40; omega⟩
  have HN := Lib.hid hN
  rw [← hK] at hk0
  have FE : dE K = false := by unfold dE; simp; omega
  have FN : dN K = false := by unfold dN; simp; omega
  have FD : dD K = false := by unfold dD; simp; omega
  have FF : dF K = false := by unfold dF; simp; omega
  have FW : dW K = false := by unfold dW; simp; omega
  have FK : dK K = true := by unfold dK; simp; omega
  have FT : dT K = false := by unfold dT; simp; omega
  have j0 : (K == 0) = false := by simp; omega
  have X1 := Lib.hid x1
  have X2 := Lib.hid (show rdDeed st = { dz with kind := K, keep := rdInts 2 N (ddL st) } by rw [x2, hk0, hcN, ← hN, Int.toNat_natCast])
  have HK := Lib.hid (show rdN st 12 = K from hK.symm)
  have HA := Lib.hid (show rdN' st 12 = ddA st from (rdAb'_pos (by rw [show rdN st 12 = ddK st from rfl, ← hK]; omega)).symm)
  have hpT := Lib.hid (hr.tab hT)
  have HT := Lib.hid hT
  have HRD := Lib.hid hr
  rw [hcN, ← hN, Int.toNat_natCast] at x1
  replace X1 := Lib.hid x1
  have hN40 := Lib.hid (show N ≤ 40 by have := rdN_bd (ddA st) 40; omega)
  clear hcN
  clear x1 hk0 hr hT hK x2 hN
  go_enter Tryz.func11, Tryz.ntmps11
  go_wp2_with (with_reducible refine stop_callS _ rfl ?_)
  refine Stop.mk (EnvP.go HRD.out ?_)
  intro w00 he00 hz00
  have E := Lib.hid he00
  clear he00
  go_wp2_with (fail)
  refine (c_octet_RNum p st 12 _ E.out.rd).mono ?_
  rintro e w6 ⟨rfl, hr6, hk6⟩
  rw [HK.out]
  have hz6 := hk6.size
  replace E := Lib.hid (E.out.call hr6 hk6)
  clear hr6 hk6
  go_wp2_with (with_reducible refine stop_build 45 _ rfl ?_)
  refine Stop.mk (wpList_buildD rfl _ _ rfl [(0, .int .i64 K)] (by rfl) (Deed.arr { dz with kind := K } wz) (built_kind K) ?_)
  go_wp2_with (with_reducible refine stS 45 (.tmp 3) (.tmp 6) rfl rfl ?_)
  refine Stop.mk (wsB rfl _ _ _ rfl w6.heap.size _ (by first | rfl | simp) rfl _ (Blk.new _ _ _) strOp (Deed.arr_size ⟨rfl, rfl⟩) (by rw [Deed.arr_size ⟨rfl, rfl⟩]; rfl) (Deed.arr_ones ⟨rfl, rfl⟩) ?_)
  intro w7 hb7 hk7
  replace E := Lib.hid ((E.out.alloc 45 _).put0 hb7 hk7)
  obtain ⟨G, hG⟩ : ∃ g, g = w6.heap.size := ⟨_, rfl⟩
  have HG := Lib.hid (show w.heap.size < G by omega)
  rw [← hG] at E ⊢
  clear hb7 hk7 hG hz6 hz00
  have hw := Lib.hid (show Deed.wf { dz with kind := K } from ⟨rfl, rfl⟩)
  obtain ⟨p0, p1, p2, p3, p4, p5, p6, p7⟩ := dcs hw.out E.out.b0
  have ff := fun i => E.out.b0.frozen i
  have hlt := E.out.b0.lt
  go_wp2_with (fail)
  clear p0 p1 p2 p3 p4 p5 p6 p7 ff hlt
  replace E := Lib.hid (E.out.state HA.out)
  refine (csh K 1 _).mono ?_
  rintro e w9 ⟨rfl, hb9⟩
  rw [hasD_E K, FE]
  replace E := Lib.hid (E.out.below hb9)
  clear hb9
  obtain ⟨p0, p1, p2, p3, p4, p5, p6, p7⟩ := dcs hw.out E.out.b0
  have ff := fun i => E.out.b0.frozen i
  have hlt := E.out.b0.lt
  go_wp2_with (fail)
  clear p0 p1 p2 p3 p4 p5 p6 p7 ff hlt
  refine (csh K 2 _).mono ?_
  rintro e w9 ⟨rfl, hb9⟩
  rw [hasD_N K, FN]
  replace E := Lib.hid (E.out.below hb9)
  clear hb9
  obtain ⟨p0, p1, p2, p3, p4, p5, p6, p7⟩ := dcs hw.out E.out.b0
  have ff := fun i => E.out.b0.frozen i
  have hlt := E.out.b0.lt
  go_wp2_with (fail)
  clear p0 p1 p2 p3 p4 p5 p6 p7 ff hlt
  refine (csh K 4 _).mono ?_
  rintro e w9 ⟨rfl, hb9⟩
  rw [hasD_D K, FD]
  replace E := Lib.hid (E.out.below hb9)
  clear hb9
  obtain ⟨p0, p1, p2, p3, p4, p5, p6, p7⟩ := dcs hw.out E.out.b0
  have ff := fun i => E.out.b0.frozen i
  have hlt := E.out.b0.lt
  go_wp2_with (fail)
  clear p0 p1 p2 p3 p4 p5 p6 p7 ff hlt
  refine (csh K 8 _).mono ?_
  rintro e w9 ⟨rfl, hb9⟩
  rw [hasD_F K, FF]
  replace E := Lib.hid (E.out.below hb9)
  clear hb9
  obtain ⟨p0, p1, p2, p3, p4, p5, p6, p7⟩ := dcs hw.out E.out.b0
  have ff := fun i => E.out.b0.frozen i
  have hlt := E.out.b0.lt
  go_wp2_with (fail)
  clear p0 p1 p2 p3 p4 p5 p6 p7 ff hlt
  refine (csh K 16 _).mono ?_
  rintro e w9 ⟨rfl, hb9⟩
  rw [hasD_W K, FW]
  replace E := Lib.hid (E.out.below hb9)
  clear hb9
  obtain ⟨p0, p1, p2, p3, p4, p5, p6, p7⟩ := dcs hw.out E.out.b0
  have ff := fun i => E.out.b0.frozen i
  have hlt := E.out.b0.lt
  go_wp2_with (fail)
  clear p0 p1 p2 p3 p4 p5 p6 p7 ff hlt
  refine (csh K 32 _).mono ?_
  rintro e w9 ⟨rfl, hb9⟩
  rw [hasD_K K, FK]
  replace E := Lib.hid (E.out.below hb9)
  clear hb9
  go_wp2_with (fail)
  refine (c_octet_RNum p _ 40 _ E.out.rd).mono ?_
  rintro e w9 ⟨rfl, hr9, hk9⟩
  rw [← HN.out]
  replace E := Lib.hid ((E.out.call hr9 hk9).state (show _ = ddL st from rfl))
  clear hr9 hk9
  obtain ⟨B, hB⟩ : ∃ B, B = w9.heap.size := ⟨_, rfl⟩
  have HO := Lib.hid (show G < B by rw [hB]; exact E.out.b0.lt)
  have HB0 := Lib.hid (show B ≤ w9.heap.size by omega)
  clear hB
  go_wp2_with (fail)
  go_loopw [65] (fun i wr => ∃ (k : Nat) (A : Option Addr) (c : Nat), k ≤ N ∧ i = .int .i64 k ∧ Hid (EnvP p (rdInts' 2 k (ddL st)) w wr [(G, Deed.arr { dz with kind := K, keep := rdInts 2 k (ddL st) } ⟨none, 0, A, c⟩), (w.heap.size, #[.int .i64 0, .int .i64 0, .int .i64 0, .int .i64 0, .int .i64 0, .int .i64 0, .int .i64 0, .int .u32 0, .int .u32 0, .int .i64 0, .int .i64 0, .string (str []), .int .i64 0, .int .i64 0, .string (str []), .int .i64 0, .int .i64 0, .string (str []), .int .i64 0, .int .i64 0, .string (str []), .int .i64 0, .int .i64 0, .string (str []), .int .i64 0, .int .i64 0, .string (str []), .int .i64 0, .int .i64 0, .string (str []), .int .i64 0, .int .i64 0, .string (str []), .slice none 0 0, .int .u32 0, .int .u32 0, .int .u32 0, .int .i64 0, .int .i64 0, .string (str []), .int .i64 0, .int .i64 0, .string (str []), .int .i64 0, .int .i64 0, .string (str []), .int .i64 0, .int .i64 0, .string (str []), .int .i64 0, .int .i64 0, .string (str []), .int .i64 0, .int .i64 0, .string (str []), .int .i64 0, .int .i64 0, .string (str []), .int .i64 0, .int .i64 0, .string (str []), .slice none 0 0, .string (str [])])]) ∧ Hid (wr.ownsRow B 3 1 (.slice A k c) k ((rdInts 2 k (ddL st)).flatMap ic)) ∧ Hid (B ≤ wr.heap.size)) (fun i _ => N - (intOf i).toNat)
  case atStart => exact ⟨0, none, 0, by omega, rfl, E.out, World.ownsRow_nil _ _ _ _, HB0.out⟩
  case round =>
    clear E HB0
    obtain ⟨k, A, c, hkN, rfl, E, O, HBw⟩ := hrel
    by_cases hlt : k < N
    · have d1 : decide ((k : Int) < (N : Int)) = true := by simp; omega
      obtain ⟨sn1, sn2⟩ := rdInts_snoc 2 k (ddL st)
      obtain ⟨S1, hS1⟩ : ∃ S, S = rdInts' 2 k (ddL st) := ⟨_, rfl⟩
      obtain ⟨l, hl⟩ : ∃ l, l = rdInts 2 k (ddL st) := ⟨_, rfl⟩
      obtain ⟨x, hx⟩ : ∃ x, x = rdN S1 2 := ⟨_, rfl⟩
      obtain ⟨S2, hS2⟩ : ∃ S, S = rdN' S1 2 := ⟨_, rfl⟩
      have hln : l.length = k := by rw [hl]; exact rdInts_len 2 k _
      rw [← hS1, ← hl, ← hx] at sn1
      rw [← hS1, ← hS2] at sn2
      have SN1 := Lib.hid sn1
      have SN2 := Lib.hid sn2
      have HX := Lib.hid hx
      have HS2 := Lib.hid hS2
      have O1 := Lib.hid (show wr.ownsRow B 3 1 (.slice A l.length c) l.length (l.flatMap ic) by rw [hln, hl]; exact O.out)
      have HXX := Lib.hid (show (Deed.arr { dz with kind := K, keep := l } ⟨none, 0, A, c⟩)[61]? = some (.slice A l.length c) from (Deed.getK ⟨rfl, rfl⟩ 0 (by omega)).trans rfl)
      rw [← hS1, ← hl] at E
      obtain ⟨X, hX⟩ : ∃ X, X = Deed.arr { dz with kind := K, keep := l } ⟨none, 0, A, c⟩ := ⟨_, rfl⟩
      have HXE := Lib.hid hX
      rw [← hX] at E HXX
      have HLN := Lib.hid hln
      have hk41 : k < 41 := by have := hN40.out; omega
      have hl8 : l.length ≤ 1000 := by have := hN40.out; omega
      clear sn1 sn2 hS1 hl hx hS2 hX hln O
      go_wp2_with (fail)
      refine wp_region_relM (VV [some (.pointer (some ⟨G, 61, none⟩)), some (.slice A l.length c), some (ptr p), some (.int .i64 x), none, none, some (.pointer (some ⟨G, 61, none⟩)), none]) (KM p S1 S2 w G B X #[.int .i64 0, .int .i64 0, .int .i64 0, .int .i64 0, .int .i64 0, .int .i64 0, .int .i64 0, .int .u32 0, .int .u32 0, .int .i64 0, .int .i64 0, .string (str []), .int .i64 0, .int .i64 0, .string (str []), .int .i64 0, .int .i64 0, .string (str []), .int .i64 0, .int .i64 0, .string (str []), .int .i64 0, .int .i64 0, .string (str []), .int .i64 0, .int .i64 0, .string (str []), .int .i64 0, .int .i64 0, .string (str []), .int .i64 0, .int .i64 0, .string (str []), .slice none 0 0, .int .u32 0, .int .u32 0, .int .u32 0, .int .i64 0, .int .i64 0, .string (str []), .int .i64 0, .int .i64 0, .string (str []), .int .i64 0, .int .i64 0, .string (str []), .int .i64 0, .int .i64 0, .string (str []), .int .i64 0, .int .i64 0, .string (str []), .int .i64 0, .int .i64 0, .string (str []), .int .i64 0, .int .i64 0, .string (str []), .int .i64 0, .int .i64 0, .string (str []), .slice none 0 0, .string (str [])] A c l x) 82 (by kernel_rfl) (by kernel_rfl) rfl ?_ ?_ ?_
      · intro u w' hb hh
        exact KM.start (Nat.le_trans HBw.out hb.size) HG.out HO.out (E.out.below hb) (own_below O1.out hb)
      · refine ⟨?_, ?_, ?_, ?_, ?_, ?_, ?_, ?_, trivial⟩
        all_goals
          rintro L u W1 hM hL hd
          have M := Lib.hid hM
          clear hM
          simp [DepsM, Region.binds, VV] at hd
          simp only [putDeps, dstOf, Region.binds]
        case refine_1 | refine_3 | refine_7 =>
          go_wp2_with (fail)
          exact EndM.mk rfl ⟨rfl, M.out.pure (by decide) (by decide) (by decide) (by decide)⟩
        case refine_2 =>
          have q61 := (M.out.blk (M.out.no7 (M.out.no5' hL))).cell HXX.out
          go_wp2_with (fail)
          exact EndM.mk rfl ⟨rfl, M.out.pure (by decide) (by decide) (by decide) (by decide)⟩
        case refine_4 =>
          have r1 : RdP W1 p S1 := by have := M.out.env.rd; rwa [if_neg (by rw [hL]; simp)] at this
          have R1 := Lib.hid r1
          clear r1
          go_wp2_with (go_at_call 10; refine (c_octet_RNum p S1 2 _ R1.out).mono ?_; rintro e w9 ⟨rfl, hr9, hk9⟩; rw [← HX.out])
          rw [← HS2.out] at hr9
          exact EndM.mk rfl ⟨rfl, M.out.call hL hr9 hk9⟩
        case refine_5 =>
          go_wp2_with (fail)
          exact EndM.mk rfl ⟨trivial, M.out.make hd.1 hL⟩
        case refine_6 =>
          obtain ⟨⟨hL1, hu1⟩, hL4, -⟩ := hd
          obtain ⟨g, e4, hsrc⟩ := M.out.lit hL4 hL
          have own := M.out.own
          rw [if_neg (by rw [hL]; simp)] at own
          rw [e4]
          go_wp2_with ((at_builtin; refine Stop.out ?_))
          refine Stop.mk (wpList_app _ rfl _ _ elemI rfl B (.slice A l.length c) l.length _ rfl own _ 1 1 (ic x) rfl hsrc (by simp [ic, Value.oneCell']) (by omega) M.out.hB ?_)
          intro v7 w7 own7 _ hb7 _
          exact EndM.mk rfl ⟨trivial, M.out.app hL1 hL4 hL own7 hb7⟩
        case refine_8 =>
          obtain ⟨⟨-, hu6⟩, hL5, -⟩ := hd
          have own := M.out.own
          rw [if_pos hL5] at own
          obtain ⟨A5, c5, e5, -⟩ := own_form own
          have s9 := (M.out.blk hL).cell HXX.out
          have sf := fun i => (M.out.blk hL).frozen i
          have slt := (M.out.blk hL).lt
          have PUT := Lib.hid (M.out.put (v := undef) hL5 hL)
          rw [e5] at PUT
          rw [e5]
          clear own
          go_wp2_with (fail)
          exact EndM.mk0 rfl ⟨trivial, PUT.out⟩
      · rintro u W1 hv hM
        obtain ⟨E2, O2⟩ := hM.done
        have hBz := hM.hB
        clear hv hM
        simp only [putAll, Act.put, Nat.reduceAdd, List.setIfInBounds_toArray, List.set_cons_zero, List.set_cons_succ]
        obtain ⟨A2, c2, e5, -⟩ := own_form O2
        rw [e5] at E2 O2 ⊢
        have E3 := Lib.hid ((E2.state SN2.out.symm).as (show _ = Deed.arr { dz with kind := K, keep := rdInts 2 (k + 1) (ddL st) } ⟨none, 0, A2, c2⟩ by
          rw [SN1.out, HXE.out]
          have := Deed.setK (o := { dz with kind := K, keep := l }) (q := ⟨none, 0, A, c⟩) ⟨rfl, rfl⟩ A2 (l ++ [x]) c2
          rw [List.length_append, List.length_singleton] at this
          exact this))
        have O3 := Lib.hid (show W1.ownsRow B 3 1 (.slice A2 (k + 1) c2) (k + 1) ((rdInts 2 (k + 1) (ddL st)).flatMap ic) by rw [SN1.out, ← HLN.out]; exact O2)
        have HB3 := Lib.hid hBz
        clear E2 O2 e5 hBz
        go_wp2_with (fail)
        go_roundw
        case rel => exact ⟨k + 1, A2, c2, by omega, by go_num, E3.out, O3.out, HB3.out⟩
        case measure => simp [intOf]; omega
    · obtain rfl : k = N := by omega
      have d1 : decide ((k : Int) < (k : Int)) = false := by simp
      replace hw := Lib.hid (show Deed.wf { dz with kind := K, keep := rdInts 2 k (ddL st) } from ⟨rfl, rfl⟩)
      have hlk : (rdInts 2 k (ddL st)).length = k := rdInts_len 2 k _
      replace O := Lib.hid (show wr.ownsRow B 3 1 (.slice A (rdInts 2 k (ddL st)).length c) (rdInts 2 k (ddL st)).length ((rdInts 2 k (ddL st)).flatMap ic) by rw [hlk]; exact O.out)
      clear hlk hlt hkN HBw
      obtain ⟨p0, p1, p2, p3, p4, p5, p6, p7⟩ := dcs hw.out E.out.b0
      have ff := fun i => E.out.b0.frozen i
      have hlt := E.out.b0.lt
      go_wp2_with (fail)
      clear p0 p1 p2 p3 p4 p5 p6 p7 ff hlt
      refine (csh K 64 _).mono ?_
      rintro e w9 ⟨rfl, hb9⟩
      rw [hasD_T K, FT]
      replace O := Lib.hid (own_below O.out hb9)
      replace E := Lib.hid (E.out.below hb9)
      clear hb9
      obtain ⟨p0, p1, p2, p3, p4, p5, p6, p7⟩ := dcs hw.out E.out.b0
      have ff := fun i => E.out.b0.frozen i
      have hlt := E.out.b0.lt
      go_wp2_with (with_reducible refine stop_load 45 (.tmp 3) rfl rfl ?_)
      clear p0 p1 p2 p3 p4 p5 p6 p7 ff hlt
      refine Stop.mk (wpList_loadB rfl _ _ rfl G rfl _ E.out.b0 strOp (Deed.arr_size hw.out) ?_)
      go_wp2_with (with_reducible refine stS 45 (.tmp 2) (.tmp 81) rfl rfl ?_)
      refine Stop.mk (wsB rfl _ _ _ rfl w.heap.size _ rfl rfl _ E.out.b1 strOp (Deed.arr_size hw.out) (by rw [Deed.arr_size hw.out]; rfl) (Deed.arr_ones hw.out) ?_)
      intro w99 hb99 hk99
      replace O := Lib.hid (own_kept O.out hk99 (fun g hg => by injection hg with hg; have := HG.out; have := HO.out; omega))
      replace E := Lib.hid ((E.out.put1 hb99 hk99).state (show _ = rdDeed' st by rw [X1.out]))
      clear hk99
      go_wp2_with (fail)
      rw [X2.out]
      exact bodyPost_ret (results_B rfl rfl hb99 strOp (Deed.arr_size hw.out)) rfl ⟨⟨none, 0, A, c⟩, rfl, World.ownsRow_nil _ _ _ _, own_base O.out (by have := HG.out; have := HO.out; omega), E.out.rd, E.out.kept⟩
end Go.Proofs.YtiedkcijjfmhaaaGreatDoor
namespace Go.Proofs.YtiedkcijjfmhaaaGreatDoor
open Go.RowKit

/-- The end of a call of the reference's that reads an act: where nothing was wrong it is the act. -/
def RetRD (p : Nat) (st' : Rd) (w : World) (d : Deed) (e : Ending) (w' : World) : Prop :=
  ∃ (x : Deed) (q : Where), e = .returned (.agg (x.arr q)) ∧ (st'.e = 0 → x = d) ∧ x.wf ∧ x.f.length ≤ 31 ∧ x.keep.length ≤ 40 ∧ w'.ownsRow w.heap.size 96 5 (.slice q.A x.f.length q.n) x.f.length (x.f.flatMap Node.cells) ∧
    w'.ownsRow w.heap.size 3 1 (.slice q.K x.keep.length q.m) x.keep.length (x.keep.flatMap ic) ∧ RdR w' p st' ∧ Kept (some p) w.heap.size w w'
theorem builtR_kind (k : Int) : Tryz.prog.built 55 [(0, .int .i64 k)] = some (Deed.arr { dz with kind := k } wz) := by rw [dz_arr]; kernel_rfl
theorem rdPred_lenZ (st : Rd) : (rdPred st).length ≤ 31 := by
  unfold rdPred
  split
  · exact pdL_len _
  · simp
/-- The first block of a call's own is made. -/
theorem EnvR.goZ {P : Program} {ops : Array Oper} {l : List Oper} {a : Act} {Q : Exit → Act → World → Prop} {t : TypeId} {p : Nat} {S : Rd} {w : World} {cs : Array Value} (r : RdR w p S) (h : ∀ w', EnvR p S w w' [(w.heap.size, cs)] → w'.heap.size = w.heap.size + 1 → wpList P ops Q l a w') :
    wpList P ops Q l a (w.alloc (.cells cs t)) := h _ ((EnvR.start r).alloc t cs) (by simp)
section
variable {p : Nat} {S S' : Rd} {w w1 w2 : World} {G B : Nat} {X Z : Array Value} {A : Option Addr} {c : Nat} {l : List Int} {x : Int} {L : Nat → Bool} {u : Nat → Value} {v : Value} {j : Nat}
theorem EnvR.belowB {bl : List (Nat × Array Value)} (h : EnvR p S w w1 bl) (hB : w.heap.size ≤ B) (hl : ∀ y ∈ bl, y.1 < B) (k : Below B w1 w2) : EnvR p S w w2 bl := by
  refine ⟨h.low, h.kept.trans (.of_below (k.mono hB)), h.rd.up k (Nat.lt_of_lt_of_le h.low hB), ?_⟩
  have h2 := h.blks
  clear h
  induction bl with
  | nil => trivial
  | cons y r ih =>
    obtain ⟨⟨a1, a2, a3⟩, a4⟩ := h2
    exact ⟨⟨a1.below k (hl y (List.mem_cons_self ..)), a2, a3⟩, ih (fun z hz => hl z (List.mem_cons_of_mem _ hz)) a4⟩
/-- What is told of the memory while a number is read and put behind others. -/
structure KR (p : Nat) (S S' : Rd) (w : World) (G B : Nat) (X Z : Array Value) (A : Option Addr) (c : Nat) (l : List Int) (x : Int) (L : Nat → Bool) (u : Nat → Value) (w1 : World) : Prop where
  c7 : L 7 = true → L 5 = true
  c5 : L 5 = true → L 4 = true ∧ L 1 = true
  c4 : L 4 = true → L 3 = true
  hB : B ≤ w1.heap.size
  hw : w.heap.size < G
  hG : G < B
  env : EnvR p (if L 3 = true then S' else S) w w1 [(G, if L 7 = true then X.setIfInBounds 61 (u 5) else X), (w.heap.size, Z)]
  own : if L 5 = true then w1.ownsRow B 3 1 (u 5) (l.length + 1) ((l ++ [x]).flatMap ic) else w1.ownsRow B 3 1 (.slice A l.length c) l.length (l.flatMap ic)
  lit : L 4 = true → L 5 = false → ∃ g, u 4 = .slice (some ⟨g, 0, none⟩) 1 1 ∧ Src w1 (some ⟨g, 0, none⟩) 1 1 (ic x)
theorem KR.start (hB : B ≤ w1.heap.size) (hw : w.heap.size < G) (hG : G < B) (e : EnvR p S w w1 [(G, X), (w.heap.size, Z)]) (o : w1.ownsRow B 3 1 (.slice A l.length c) l.length (l.flatMap ic)) : KR p S S' w G B X Z A c l x (fun _ => false) u w1 :=
  ⟨(fun h => by cases h), (fun h => by cases h), (fun h => by cases h), hB, hw, hG, e, o, (fun h => by cases h)⟩
theorem KR.low (h : KR p S S' w G B X Z A c l x L u w1) : ∀ g, some p = some g → g < B := fun g hg => by injection hg with hg; have := h.env.low; have := h.hw; have := h.hG; omega
theorem KR.no4 (h : KR p S S' w G B X Z A c l x L u w1) (h3 : L 3 = false) : L 4 = false := by
  cases e : L 4
  · rfl
  · have := h.c4 e; rw [h3] at this; cases this
theorem KR.no5 (h : KR p S S' w G B X Z A c l x L u w1) (h4 : L 4 = false) : L 5 = false := by
  cases e : L 5
  · rfl
  · have := (h.c5 e).1; rw [h4] at this; cases this
theorem KR.no7 (h : KR p S S' w G B X Z A c l x L u w1) (h5 : L 5 = false) : L 7 = false := by
  cases e : L 7
  · rfl
  · have := h.c7 e; rw [h5] at this; cases this
theorem KR.no5' (h : KR p S S' w G B X Z A c l x L u w1) (h1 : L 1 = false) : L 5 = false := by
  cases e : L 5
  · rfl
  · have := (h.c5 e).2; rw [h1] at this; cases this
theorem KR.pure (h : KR p S S' w G B X Z A c l x L u w1) (h3 : j ≠ 3) (h4 : j ≠ 4) (h5 : j ≠ 5) (h7 : j ≠ 7) : KR p S S' w G B X Z A c l x (upd L j true) (upd u j v) w1 := by
  have e3 : upd L j true 3 = L 3 := upd_other _ _ (Ne.symm h3)
  have e4 : upd L j true 4 = L 4 := upd_other _ _ (Ne.symm h4)
  have e5 : upd L j true 5 = L 5 := upd_other _ _ (Ne.symm h5)
  have e7 : upd L j true 7 = L 7 := upd_other _ _ (Ne.symm h7)
  have f4 : upd u j v 4 = u 4 := upd_other _ _ (Ne.symm h4)
  have f5 : upd u j v 5 = u 5 := upd_other _ _ (Ne.symm h5)
  refine ⟨by rw [e7, e5]; exact h.c7, ?_, by rw [e4, e3]; exact h.c4, h.hB, h.hw, h.hG, by rw [e3, e7, f5]; exact h.env, by rw [e5, f5]; exact h.own, by rw [e4, e5, f4]; exact h.lit⟩
  rw [e5, e4]
  intro hh
  obtain ⟨a, b⟩ := h.c5 hh
  refine ⟨a, ?_⟩
  by_cases hj : 1 = j
  · subst hj; exact upd_same ..
  · rw [upd_other _ _ hj]; exact b
theorem KR.call (h : KR p S S' w G B X Z A c l x L u w1) (h3 : L 3 = false) (r : RdR w2 p S') (k : Kept (some p) w1.heap.size w1 w2) : KR p S S' w G B X Z A c l x (upd L 3 true) (upd u 3 v) w2 := by
  have h4 := h.no4 h3
  have h5 := h.no5 h4
  have h7 := h.no7 h5
  have o := h.own
  have E := h.env
  rw [if_neg (by rw [h5]; simp)] at o
  rw [if_neg (by rw [h3]; simp), if_neg (by rw [h7]; simp)] at E
  have e4 : upd L 3 true 4 = false := (upd_other _ _ (by decide)).trans h4
  have e5 : upd L 3 true 5 = false := (upd_other _ _ (by decide)).trans h5
  have e7 : upd L 3 true 7 = false := (upd_other _ _ (by decide)).trans h7
  refine ⟨(fun e => by rw [e7] at e; cases e), (fun e => by rw [e5] at e; cases e), (fun e => by rw [e4] at e; cases e), Nat.le_trans h.hB k.size, h.hw, h.hG, ?_, ?_, (fun e => by rw [e4] at e; cases e)⟩
  · rw [upd_same, if_pos rfl, if_neg (by rw [e7]; simp)]
    exact E.call r k
  · rw [if_neg (by rw [e5]; simp)]
    exact own_kept o k h.low
theorem KR.make (h : KR p S S' w G B X Z A c l x L u w1) (h3 : L 3 = true) (h4 : L 4 = false) : KR p S S' w G B X Z A c l x (upd L 4 true) (upd u 4 (.slice (some ⟨w1.heap.size, 0, none⟩) 1 1)) (w1.alloc (.cells #[.int .i64 x] 3)) := by
  have h5 := h.no5 h4
  have h7 := h.no7 h5
  have o := h.own
  have E := h.env
  rw [if_neg (by rw [h5]; simp)] at o
  rw [if_pos h3, if_neg (by rw [h7]; simp)] at E
  have e3 : upd L 4 true 3 = true := (upd_other _ _ (by decide)).trans h3
  have e5 : upd L 4 true 5 = false := (upd_other _ _ (by decide)).trans h5
  have e7 : upd L 4 true 7 = false := (upd_other _ _ (by decide)).trans h7
  have hb : Below w1.heap.size w1 (w1.alloc (.cells #[.int .i64 x] 3)) := (Below.refl _ _).alloc (Nat.le_refl _) _
  refine ⟨(fun e => by rw [e7] at e; cases e), (fun e => by rw [e5] at e; cases e), fun _ => e3, Nat.le_trans h.hB hb.size, h.hw, h.hG, ?_, ?_, fun _ _ => ⟨w1.heap.size, upd_same .., Src.new w1 (ic x) _ 1 rfl⟩⟩
  · rw [if_pos e3, if_neg (by rw [e7]; simp)]
    exact E.below hb
  · rw [if_neg (by rw [e5]; simp)]
    exact own_below o hb
theorem KR.app (h : KR p S S' w G B X Z A c l x L u w1) (h1 : L 1 = true) (h4 : L 4 = true) (h5 : L 5 = false) (o : w2.ownsRow B 3 1 v (l.length + 1) (l.flatMap ic ++ ic x)) (k : Below B w1 w2) : KR p S S' w G B X Z A c l x (upd L 5 true) (upd u 5 v) w2 := by
  have h3 := h.c4 h4
  have h7 := h.no7 h5
  have E := h.env
  rw [if_pos h3, if_neg (by rw [h7]; simp)] at E
  have e1 : upd L 5 true 1 = true := (upd_other _ _ (by decide)).trans h1
  have e3 : upd L 5 true 3 = true := (upd_other _ _ (by decide)).trans h3
  have e4 : upd L 5 true 4 = true := (upd_other _ _ (by decide)).trans h4
  have e7 : upd L 5 true 7 = false := (upd_other _ _ (by decide)).trans h7
  have e5 : upd L 5 true 5 = true := upd_same ..
  have hw := h.hw
  have hG := h.hG
  refine ⟨(fun e => by rw [e7] at e; cases e), fun _ => ⟨e4, e1⟩, fun _ => e3, Nat.le_trans h.hB k.size, h.hw, h.hG, ?_, ?_, (fun _ e => by rw [e5] at e; cases e)⟩
  · rw [if_pos e3, if_neg (by rw [e7]; simp)]
    refine E.belowB (by omega) (fun y hy => ?_) k
    rcases List.mem_cons.1 hy with rfl | hy
    · exact hG
    · rw [List.mem_singleton.1 hy]; simp only; omega
  · rw [if_pos e5, upd_same, List.flatMap_append, List.flatMap_cons, List.flatMap_nil, List.append_nil]
    exact o
theorem KR.put (h : KR p S S' w G B X Z A c l x L u w1) (h5 : L 5 = true) (h7 : L 7 = false) : KR p S S' w G B X Z A c l x (upd L 7 true) (upd u 7 v) (w1.setCell ⟨G, 61, none⟩ (u 5)) := by
  have h4 := (h.c5 h5).1
  have h1 := (h.c5 h5).2
  have h3 := h.c4 h4
  have o := h.own
  have E := h.env
  rw [if_pos h5] at o
  rw [if_pos h3, if_neg (by rw [h7]; simp)] at E
  have e1 : upd L 7 true 1 = true := (upd_other _ _ (by decide)).trans h1
  have e3 : upd L 7 true 3 = true := (upd_other _ _ (by decide)).trans h3
  have e4 : upd L 7 true 4 = true := (upd_other _ _ (by decide)).trans h4
  have e5 : upd L 7 true 5 = true := (upd_other _ _ (by decide)).trans h5
  have f5 : upd u 7 v 5 = u 5 := upd_other _ _ (by decide)
  have hG := h.hG
  refine ⟨fun _ => e5, fun _ => ⟨e4, e1⟩, fun _ => e3, Nat.le_trans h.hB (kept_set w1 G 61 (u 5)).size, h.hw, h.hG, ?_, ?_, (fun _ e => by rw [e5] at e; cases e)⟩
  · rw [if_pos e3, if_pos (upd_same ..), f5]
    exact E.store0 61 (u 5)
  · rw [if_pos e5, f5]
    exact own_kept o (kept_set w1 G 61 (u 5)) (fun g hg => by injection hg with hg; omega)
theorem KR.done (h : KR p S S' w G B X Z A c l x (fun j => decide (j < 8)) u w1) : EnvR p S' w w1 [(G, X.setIfInBounds 61 (u 5)), (w.heap.size, Z)] ∧ w1.ownsRow B 3 1 (u 5) (l.length + 1) ((l ++ [x]).flatMap ic) := ⟨h.env, h.own⟩
theorem KR.blk (h : KR p S S' w G B X Z A c l x L u w1) (h7 : L 7 = false) : Blk w1 G X := by
  have := h.env.b0
  rwa [if_neg (by rw [h7]; simp)] at this
end
end Go.Proofs.YtiedkcijjfmhaaaGreatDoor
