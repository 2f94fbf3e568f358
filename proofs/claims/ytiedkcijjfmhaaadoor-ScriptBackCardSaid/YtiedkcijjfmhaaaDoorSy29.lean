/-
  Lemmas (walks and plain laws), in one text.
-/
import Derived.Test.YtiedkcijjfmhaaaDoorSy1
import Derived.Test.YtiedkcijjfmhaaaDoorSy3
import Derived.Test.YtiedkcijjfmhaaaDoorSy13
import Derived.Test.YtiedkcijjfmhaaaDoorSy14
import Derived.Test.YtiedkcijjfmhaaaDoorSy15
import Derived.Test.YtiedkcijjfmhaaaDoorSy16
import Derived.Test.YtiedkcijjfmhaaaDoorSy18
import Derived.Test.YtiedkcijjfmhaaaDoorSy19
import Derived.Test.YtiedkcijjfmhaaaDoorSy28
import Derived.Laws.Tables
import Derived.Great.BuildSlice
namespace Go.Proofs.YtiedkcijjfmhaaaDoor
open Go.RowKit

theorem strOpR : Str Tryd.prog 34 63 := ⟨⟨_, Tryd.underlying34, rfl⟩, by kernel_rfl⟩
theorem blk_two (w : World) (o : Obj) (t : TypeId) (cs : Array Value) : Blk ((w.alloc o).alloc (.cells cs t)) (w.heap.size + 1) cs := by
  have := Blk.new (w.alloc o) t cs
  simpa using this
structure XC (w w' : World) (o r : Deed) (q s : Where) (g : Nat) : Prop where
  below : Below w.heap.size w w'
  o : Blk w' w.heap.size (o.arr q)
  r : Blk w' g (r.arr s)
  hg : w.heap.size < g
section
variable {w w1 w2 : World} {o r r' : Deed} {q s s' : Where} {g : Nat}
theorem XC.step (c : XC w w1 o r q s g) (hb : Below w1.heap.size w1 w2) : XC w w2 o r q s g := ⟨c.below.trans (hb.mono c.below.size), c.o.below hb c.o.lt, c.r.below hb c.r.lt, c.hg⟩
theorem XC.put (c : XC w w1 o r q s g) (hk : Kept (some g) w1.heap.size w1 w2) (hb : Blk w2 g (r'.arr s')) : XC w w2 o r' q s' g :=
  ⟨c.below.trans (hk.oneB c.below.size (by have := c.hg; omega)), c.o.kept hk c.o.lt (fun e => by injection e with e; have := c.hg; omega), hb, c.hg⟩
theorem XC.set (c : XC w w1 o r q s g) (off : Nat) (v : Value) (e : (r.arr s).setIfInBounds off v = r'.arr s') : XC w (w1.setCell ⟨g, off, none⟩ v) o r' q s' g := c.put (kept_set w1 g off v) (e ▸ c.r.store off v)
end
open Go.RowKit

theorem stop_build {P : Program} {w : World} {ops : Array Oper} {rest : List Oper} {o : Oper} {a : Act} {Q : Exit → Act → World → Prop} (t : TypeId) (parts : Array (Nat × Operand)) (_ : o.op = .build t parts) (h : Stop (wpList P ops Q (o :: rest) a w)) : wpList P ops Q (o :: rest) a w := h
theorem wpList_buildD {P : Program} {w : World} {ops : Array Oper} {rest : List Oper} {o : Oper} {a : Act} {Q : Exit → Act → World → Prop} (hgd : o.guard = none) (t : TypeId) (parts : Array (Nat × Operand)) (ho : o.op = .build t parts) (ps : List (Nat × Value))
    (hp : (parts.toList.map fun (i, x) => (i, a.eval x)) = ps) (cells : Array Value) (hc : P.built t ps = some cells)
    (h : wpList P ops Q rest (a.put o.dst (.agg cells)) w) : wpList P ops Q (o :: rest) a w := by
  refine wpList_plain hgd fun K hK => ?_
  unfold Oper.wp execOp
  simp only [ho, Sem.run_bind, run_build w t _ cells (by rw [Array.toList_map, hp]; exact hc), Result.andThen_ok]
  exact hK _ _ h
def opPlace : Array (Nat × Nat) := #[(0, 1), (1, 1), (2, 1), (3, 1), (4, 29), (33, 1), (34, 1), (35, 26), (61, 1), (62, 1)]
theorem fill_one (pl : Nat → Option (Nat × Nat)) (cells : Array Value) (i off : Nat) (v : Value) (rest : List (Nat × Value)) (hp : pl i = some (off, 1)) (hv : v.cells = #[v]) (hs : off + 1 ≤ cells.size) : Instr.fill pl cells ((i, v) :: rest) = Instr.fill pl (cells.setIfInBounds off v) rest := by
  rw [Instr.fill, hp, hv]
  simp
  omega
theorem foldl_put : ∀ (vs : List Value) (cs : Array Value) (off k : Nat), (vs.zipIdx k).foldl (fun cs (x : Value × Nat) => cs.setIfInBounds (off + x.2) x.1) cs = putAt cs (off + k) vs
  | [], _, _, _ => rfl
  | v :: r, cs, off, k => by
    rw [List.zipIdx_cons, List.foldl_cons, foldl_put r, putAt]
    rfl
theorem fill_agg (pl : Nat → Option (Nat × Nat)) (cells : Array Value) (i off n : Nat) (E : Array Value) (rest : List (Nat × Value)) (hp : pl i = some (off, n)) (hn : E.size = n) (hs : off + n ≤ cells.size) : Instr.fill pl cells ((i, .agg E) :: rest) = Instr.fill pl (putAt cells off E.toList) rest := by
  subst hn
  rw [Instr.fill, hp]
  have hc : (Value.agg E).cells = E := rfl
  simp only [hc]
  rw [if_neg (by simp; omega)]
  congr 1
  have := foldl_put E.toList cells off 0
  rw [Nat.add_zero] at this
  rw [← this, ← Array.foldl_toList, Array.toList_zipIdx]
theorem built_fill (o : Deed) (q : Where) (hwf : o.wf) :
    Instr.fill (opPlace[·]?) (dz.arr wz) [(0, .int .i64 o.kind), (1, .int .i64 o.n), (2, .int .i64 o.dev), (3, .int .i64 o.id), (4, .agg o.e.arr), (5, .slice q.A o.f.length q.n), (6, .int .u32 o.mask), (7, .agg o.p.arr), (8, .slice q.K o.keep.length q.m), (9, .string (str o.text))] = some (o.arr q) := by
  have s0 : (dz.arr wz).size = 63 := Deed.arr_size dz_wf
  rw [fill_one _ _ 0 0 _ _ rfl rfl (by simp [s0])]
  rw [fill_one _ _ 1 1 _ _ rfl rfl (by simp [s0])]
  rw [fill_one _ _ 2 2 _ _ rfl rfl (by simp [s0])]
  rw [fill_one _ _ 3 3 _ _ rfl rfl (by simp [s0])]
  rw [fill_agg _ _ 4 4 29 _ _ rfl (by rw [Edit.arr_size, hwf.e]) (by simp [s0])]
  rw [fill_one _ _ 5 33 _ _ rfl rfl (by simp [putAt_size, s0])]
  rw [fill_one _ _ 6 34 _ _ rfl rfl (by simp [putAt_size, s0])]
  rw [fill_agg _ _ 7 35 26 _ _ rfl (by rw [Patch.arr_size, hwf.p]) (by simp [putAt_size, s0])]
  rw [fill_one _ _ 8 61 _ _ rfl rfl (by simp [putAt_size, s0])]
  rw [fill_one _ _ 9 62 _ _ rfl rfl (by simp [putAt_size, s0])]
  have e0 : (Deed.arr ⟨0, 0, 0, 0, ez, [], 0, pz, [], []⟩ wz).setIfInBounds 0 (.int .i64 o.kind) = Deed.arr ⟨o.kind, 0, 0, 0, ez, [], 0, pz, [], []⟩ wz := by have := Deed.setI (o := ⟨0, 0, 0, 0, ez, [], 0, pz, [], []⟩) (q := wz) ⟨rfl, rfl⟩ 0 (by omega) o.kind; simpa using this
  have e1 : (Deed.arr ⟨o.kind, 0, 0, 0, ez, [], 0, pz, [], []⟩ wz).setIfInBounds 1 (.int .i64 o.n) = Deed.arr ⟨o.kind, o.n, 0, 0, ez, [], 0, pz, [], []⟩ wz := by have := Deed.setI (o := ⟨o.kind, 0, 0, 0, ez, [], 0, pz, [], []⟩) (q := wz) ⟨rfl, rfl⟩ 1 (by omega) o.n; simpa using this
  have e2 : (Deed.arr ⟨o.kind, o.n, 0, 0, ez, [], 0, pz, [], []⟩ wz).setIfInBounds 2 (.int .i64 o.dev) = Deed.arr ⟨o.kind, o.n, o.dev, 0, ez, [], 0, pz, [], []⟩ wz := by have := Deed.setI (o := ⟨o.kind, o.n, 0, 0, ez, [], 0, pz, [], []⟩) (q := wz) ⟨rfl, rfl⟩ 2 (by omega) o.dev; simpa using this
  have e3 : (Deed.arr ⟨o.kind, o.n, o.dev, 0, ez, [], 0, pz, [], []⟩ wz).setIfInBounds 3 (.int .i64 o.id) = Deed.arr ⟨o.kind, o.n, o.dev, o.id, ez, [], 0, pz, [], []⟩ wz := by have := Deed.setI (o := ⟨o.kind, o.n, o.dev, 0, ez, [], 0, pz, [], []⟩) (q := wz) ⟨rfl, rfl⟩ 3 (by omega) o.id; simpa using this
  have e4 : putAt (Deed.arr ⟨o.kind, o.n, o.dev, o.id, ez, [], 0, pz, [], []⟩ wz) 4 o.e.arr.toList = Deed.arr ⟨o.kind, o.n, o.dev, o.id, o.e, [], 0, pz, [], []⟩ wz := Deed.putE (o := ⟨o.kind, o.n, o.dev, o.id, ez, [], 0, pz, [], []⟩) (q := wz) ⟨rfl, rfl⟩ o.e hwf.e
  have e5 : (Deed.arr ⟨o.kind, o.n, o.dev, o.id, o.e, [], 0, pz, [], []⟩ wz).setIfInBounds 33 (.slice q.A o.f.length q.n) = Deed.arr ⟨o.kind, o.n, o.dev, o.id, o.e, o.f, 0, pz, [], []⟩ ⟨q.A, q.n, none, 0⟩ := Deed.setF (o := ⟨o.kind, o.n, o.dev, o.id, o.e, [], 0, pz, [], []⟩) (q := wz) ⟨hwf.e, rfl⟩ q.A o.f q.n
  have e6 : (Deed.arr ⟨o.kind, o.n, o.dev, o.id, o.e, o.f, 0, pz, [], []⟩ ⟨q.A, q.n, none, 0⟩).setIfInBounds 34 (.int .u32 o.mask) = Deed.arr ⟨o.kind, o.n, o.dev, o.id, o.e, o.f, o.mask, pz, [], []⟩ ⟨q.A, q.n, none, 0⟩ := Deed.setM (o := ⟨o.kind, o.n, o.dev, o.id, o.e, o.f, 0, pz, [], []⟩) (q := ⟨q.A, q.n, none, 0⟩) ⟨hwf.e, rfl⟩ o.mask
  have e7 : putAt (Deed.arr ⟨o.kind, o.n, o.dev, o.id, o.e, o.f, o.mask, pz, [], []⟩ ⟨q.A, q.n, none, 0⟩) 35 o.p.arr.toList = Deed.arr ⟨o.kind, o.n, o.dev, o.id, o.e, o.f, o.mask, o.p, [], []⟩ ⟨q.A, q.n, none, 0⟩ := Deed.putP (o := ⟨o.kind, o.n, o.dev, o.id, o.e, o.f, o.mask, pz, [], []⟩) (q := ⟨q.A, q.n, none, 0⟩) ⟨hwf.e, rfl⟩ o.p hwf.p
  have e8 : (Deed.arr ⟨o.kind, o.n, o.dev, o.id, o.e, o.f, o.mask, o.p, [], []⟩ ⟨q.A, q.n, none, 0⟩).setIfInBounds 61 (.slice q.K o.keep.length q.m) = Deed.arr ⟨o.kind, o.n, o.dev, o.id, o.e, o.f, o.mask, o.p, o.keep, []⟩ ⟨q.A, q.n, q.K, q.m⟩ := Deed.setK (o := ⟨o.kind, o.n, o.dev, o.id, o.e, o.f, o.mask, o.p, [], []⟩) (q := ⟨q.A, q.n, none, 0⟩) ⟨hwf.e, hwf.p⟩ q.K o.keep q.m
  have e9 : (Deed.arr ⟨o.kind, o.n, o.dev, o.id, o.e, o.f, o.mask, o.p, o.keep, []⟩ ⟨q.A, q.n, q.K, q.m⟩).setIfInBounds 62 (.string (str o.text)) = Deed.arr ⟨o.kind, o.n, o.dev, o.id, o.e, o.f, o.mask, o.p, o.keep, o.text⟩ ⟨q.A, q.n, q.K, q.m⟩ := Deed.setT (o := ⟨o.kind, o.n, o.dev, o.id, o.e, o.f, o.mask, o.p, o.keep, []⟩) (q := ⟨q.A, q.n, q.K, q.m⟩) ⟨hwf.e, hwf.p⟩ o.text
  have ed : dz.arr wz = Deed.arr ⟨0, 0, 0, 0, ez, [], 0, pz, [], []⟩ wz := rfl
  rw [ed, e0, e1, e2, e3, e4, e5, e6, e7, e8, e9]
  rfl
theorem built_To (ps : List (Nat × Value)) : Tryd.prog.built 38 ps = Instr.fill (opPlace[·]?) #[.int .i64 0, .int .i64 0, .int .i64 0, .int .i64 0, .int .i64 0, .int .i64 0, .int .i64 0, .int .u32 0, .int .u32 0, .int .i64 0, .int .i64 0, .string (str []), .int .i64 0, .int .i64 0, .string (str []), .int .i64 0, .int .i64 0, .string (str []), .int .i64 0, .int .i64 0, .string (str []), .int .i64 0, .int .i64 0, .string (str []), .int .i64 0, .int .i64 0, .string (str []), .int .i64 0, .int .i64 0, .string (str []), .int .i64 0, .int .i64 0, .string (str []), .slice none 0 0, .int .u32 0, .int .u32 0, .int .u32 0, .int .i64 0, .int .i64 0, .string (str []), .int .i64 0, .int .i64 0, .string (str []), .int .i64 0, .int .i64 0, .string (str []), .int .i64 0, .int .i64 0, .string (str []), .int .i64 0, .int .i64 0, .string (str []), .int .i64 0, .int .i64 0, .string (str []), .int .i64 0, .int .i64 0, .string (str []), .int .i64 0, .int .i64 0, .string (str []), .slice none 0 0, .string (str [])] ps := by kernel_rfl
set_option maxHeartbeats 4000000 in
set_option maxRecDepth 10000 in
theorem c_law47_To (x : DQ) (w : World) : Calls Tryd.prog 9 #[.agg (x.o.arr x.q)] w (RetV w (.agg (x.o.arr x.q))) := by
  obtain ⟨o, q, hwf⟩ := x
  show Calls _ _ #[.agg (o.arr q)] w (RetV w (.agg (o.arr q)))
  have HF := lh hwf
  have B0 := lh ((At.new w 34 (o.arr q)).alloc (.cells #[.int .i64 0, .int .i64 0, .int .i64 0, .int .i64 0, .int .i64 0, .int .i64 0, .int .i64 0, .int .u32 0, .int .u32 0, .int .i64 0, .int .i64 0, .string (str []), .int .i64 0, .int .i64 0, .string (str []), .int .i64 0, .int .i64 0, .string (str []), .int .i64 0, .int .i64 0, .string (str []), .int .i64 0, .int .i64 0, .string (str []), .int .i64 0, .int .i64 0, .string (str []), .int .i64 0, .int .i64 0, .string (str []), .int .i64 0, .int .i64 0, .string (str []), .slice none 0 0, .int .u32 0, .int .u32 0, .int .u32 0, .int .i64 0, .int .i64 0, .string (str []), .int .i64 0, .int .i64 0, .string (str []), .int .i64 0, .int .i64 0, .string (str []), .int .i64 0, .int .i64 0, .string (str []), .int .i64 0, .int .i64 0, .string (str []), .int .i64 0, .int .i64 0, .string (str []), .int .i64 0, .int .i64 0, .string (str []), .int .i64 0, .int .i64 0, .string (str []), .slice none 0 0, .string (str [])] 38))
  have HB := lh (built_fill o q hwf)
  have ps := dcs hwf B0.out.2
  clear hwf
  go_enter Tryd.func9, Tryd.ntmps9
  go_wp2_with (with_reducible refine slG 30 (.tmp 11) rfl ?_)
  refine Stop.mk (wlG (by rfl) _ _ rfl w.heap.size 4 rfl o.e.arr (deed_edit HF.out B0.out.2) strE (by rw [Edit.arr_size, HF.out.e]) ?_)
  go_wp2_with (with_reducible refine slG 28 (.tmp 17) rfl ?_)
  refine Stop.mk (wlG (by rfl) _ _ rfl w.heap.size 35 rfl o.p.arr (deed_patch HF.out B0.out.2) strP (by rw [Patch.arr_size, HF.out.p]) ?_)
  go_wp2_with (with_reducible refine stop_build 38 _ rfl ?_)
  refine Stop.mk (wpList_buildD rfl _ _ rfl [(0, .int .i64 o.kind), (1, .int .i64 o.n), (2, .int .i64 o.dev), (3, .int .i64 o.id), (4, .agg o.e.arr), (5, .slice q.A o.f.length q.n), (6, .int .u32 o.mask), (7, .agg o.p.arr), (8, .slice q.K o.keep.length q.m), (9, .string (str o.text))] (by rfl) (o.arr q) ((built_To _).trans (by rw [← dz_arr0]; exact HB.out)) ?_)
  go_wp2_with (with_reducible refine stS 38 (.tmp 2) (.tmp 23) rfl rfl ?_)
  refine Stop.mk (wsB rfl _ _ _ rfl (w.heap.size + 1) _ (by first | rfl | simp) rfl _ (blk_two _ _ _ _) strOp (Deed.arr_size HF.out) (by rw [Deed.arr_size HF.out]; rfl) (Deed.arr_ones HF.out) ?_)
  intro w3 hb3 hk3
  have hbw := lh (B0.out.1.trans (hk3.oneB (by simp; omega) (by omega)))
  clear hk3 ps
  go_wp2_with (fail)
  exact bodyPost_ret (results_B rfl (by first | rfl | simp) hb3 strOp (Deed.arr_size HF.out)) rfl ⟨rfl, hbw.out⟩
theorem built_From (ps : List (Nat × Value)) : Tryd.prog.built 34 ps = Instr.fill (opPlace[·]?) #[.int .i64 0, .int .i64 0, .int .i64 0, .int .i64 0, .int .i64 0, .int .i64 0, .int .i64 0, .int .u32 0, .int .u32 0, .int .i64 0, .int .i64 0, .string (str []), .int .i64 0, .int .i64 0, .string (str []), .int .i64 0, .int .i64 0, .string (str []), .int .i64 0, .int .i64 0, .string (str []), .int .i64 0, .int .i64 0, .string (str []), .int .i64 0, .int .i64 0, .string (str []), .int .i64 0, .int .i64 0, .string (str []), .int .i64 0, .int .i64 0, .string (str []), .slice none 0 0, .int .u32 0, .int .u32 0, .int .u32 0, .int .i64 0, .int .i64 0, .string (str []), .int .i64 0, .int .i64 0, .string (str []), .int .i64 0, .int .i64 0, .string (str []), .int .i64 0, .int .i64 0, .string (str []), .int .i64 0, .int .i64 0, .string (str []), .int .i64 0, .int .i64 0, .string (str []), .int .i64 0, .int .i64 0, .string (str []), .int .i64 0, .int .i64 0, .string (str []), .slice none 0 0, .string (str [])] ps := by kernel_rfl
set_option maxHeartbeats 4000000 in
set_option maxRecDepth 10000 in
theorem c_law47_From (x : DQ) (w : World) : Calls Tryd.prog 47 #[.agg (x.o.arr x.q)] w (RetV w (.agg (x.o.arr x.q))) := by
  obtain ⟨o, q, hwf⟩ := x
  show Calls _ _ #[.agg (o.arr q)] w (RetV w (.agg (o.arr q)))
  have HF := lh hwf
  have B0 := lh ((At.new w 38 (o.arr q)).alloc (.cells #[.int .i64 0, .int .i64 0, .int .i64 0, .int .i64 0, .int .i64 0, .int .i64 0, .int .i64 0, .int .u32 0, .int .u32 0, .int .i64 0, .int .i64 0, .string (str []), .int .i64 0, .int .i64 0, .string (str []), .int .i64 0, .int .i64 0, .string (str []), .int .i64 0, .int .i64 0, .string (str []), .int .i64 0, .int .i64 0, .string (str []), .int .i64 0, .int .i64 0, .string (str []), .int .i64 0, .int .i64 0, .string (str []), .int .i64 0, .int .i64 0, .string (str []), .slice none 0 0, .int .u32 0, .int .u32 0, .int .u32 0, .int .i64 0, .int .i64 0, .string (str []), .int .i64 0, .int .i64 0, .string (str []), .int .i64 0, .int .i64 0, .string (str []), .int .i64 0, .int .i64 0, .string (str []), .int .i64 0, .int .i64 0, .string (str []), .int .i64 0, .int .i64 0, .string (str []), .int .i64 0, .int .i64 0, .string (str []), .int .i64 0, .int .i64 0, .string (str []), .slice none 0 0, .string (str [])] 34))
  have HB := lh (built_fill o q hwf)
  have ps := dcs hwf B0.out.2
  clear hwf
  go_enter Tryd.func47, Tryd.ntmps47
  go_wp2_with (with_reducible refine slG 30 (.tmp 11) rfl ?_)
  refine Stop.mk (wlG (by rfl) _ _ rfl w.heap.size 4 rfl o.e.arr (deed_edit HF.out B0.out.2) strE (by rw [Edit.arr_size, HF.out.e]) ?_)
  go_wp2_with (with_reducible refine slG 28 (.tmp 17) rfl ?_)
  refine Stop.mk (wlG (by rfl) _ _ rfl w.heap.size 35 rfl o.p.arr (deed_patch HF.out B0.out.2) strP (by rw [Patch.arr_size, HF.out.p]) ?_)
  go_wp2_with (with_reducible refine stop_build 34 _ rfl ?_)
  refine Stop.mk (wpList_buildD rfl _ _ rfl [(0, .int .i64 o.kind), (1, .int .i64 o.n), (2, .int .i64 o.dev), (3, .int .i64 o.id), (4, .agg o.e.arr), (5, .slice q.A o.f.length q.n), (6, .int .u32 o.mask), (7, .agg o.p.arr), (8, .slice q.K o.keep.length q.m), (9, .string (str o.text))] (by rfl) (o.arr q) ((built_From _).trans (by rw [← dz_arr0]; exact HB.out)) ?_)
  go_wp2_with (with_reducible refine stS 34 (.tmp 2) (.tmp 23) rfl rfl ?_)
  refine Stop.mk (wsB rfl _ _ _ rfl (w.heap.size + 1) _ (by first | rfl | simp) rfl _ (blk_two _ _ _ _) strOpR (Deed.arr_size HF.out) (by rw [Deed.arr_size HF.out]; rfl) (Deed.arr_ones HF.out) ?_)
  intro w3 hb3 hk3
  have hbw := lh (B0.out.1.trans (hk3.oneB (by simp; omega) (by omega)))
  clear hk3 ps
  go_wp2_with (fail)
  exact bodyPost_ret (results_B rfl (by first | rfl | simp) hb3 strOpR (Deed.arr_size HF.out)) rfl ⟨rfl, hbw.out⟩
open Go.RowKit

theorem putAt_full (cs : Array Value) (vs : List Value) (h : cs.size = vs.length) : putAt cs 0 vs = vs.toArray := by
  apply Array.ext_getElem?
  intro i
  have hr : vs.toArray[i]? = vs[i]? := by simp
  rw [hr]
  by_cases hi : i < vs.length
  · have := putAt_in vs cs 0 i (by omega) hi
    rwa [Nat.zero_add] at this
  · rw [Array.getElem?_eq_none (by rw [putAt_size]; omega), List.getElem?_eq_none (by omega)]
theorem stop_lit {P : Program} {w : World} {ops : Array Oper} {rest : List Oper} {o : Oper} {a : Act} {Q : Exit → Act → World → Prop} (t : TypeId) (parts : Array (Nat × Operand)) (_ : o.op = .buildSlice t 1 parts) (h : Stop (wpList P ops Q (o :: rest) a w)) : wpList P ops Q (o :: rest) a w := h
theorem wpList_lit1 {P : Program} {w : World} {ops : Array Oper} {rest : List Oper} {o : Oper} {a : Act} {Q : Exit → Act → World → Prop} (hg : o.guard = none) (t e : TypeId) (x : Operand) (ho : o.op = .buildSlice t 1 #[(0, x)]) {n bytes : Nat} (I : Elem P t e n bytes) (hn : n ≤ 16777216) (E : Array Value)
    (hx : a.eval x = .agg E) (hE : E.size = n) (h : wpList P ops Q rest (a.put o.dst (.slice (some ⟨w.heap.size, 0, none⟩) 1 1)) (w.alloc (.cells E e))) : wpList P ops Q (o :: rest) a w := by
  obtain ⟨i, z, h1, h2, h3, h4, h5⟩ := I.info
  have hp := I.pos
  refine wpList_buildSlice hg t e 1 _ ho E i z I.under h1 h2 (by omega) (by omega) ?_ h
  have e0 : ((#[(0, x)] : Array (Nat × Operand)).map fun (i, x) => (i, a.eval x)).toList = [(0, .agg E)] := by simp [hx]
  rw [e0, fill_agg _ _ 0 0 n E [] (by simp [h3]) hE (by simp; omega)]
  rw [putAt_full _ _ (by simp; omega)]
  simp [Instr.fill]
open Go.RowKit

theorem stop_callS {P : Program} {w : World} {ops : Array Oper} {rest : List Oper} {o : Oper} {a : Act} {Q : Exit → Act → World → Prop} (c : Call) (_ : o.op = .call c) (h : Stop (wpList P ops Q (o :: rest) a w)) : wpList P ops Q (o :: rest) a w := h
def RetPD (p : Option Nat) (st' : Rd) (w : World) (d : Deed) (e : Ending) (w' : World) : Prop :=
  ∃ q : Where, e = .returned (.agg (d.arr q)) ∧ w'.ownsRow w.heap.size 80 5 (.slice q.A d.f.length q.n) d.f.length (d.f.flatMap Node.cells) ∧
    w'.ownsRow w.heap.size 3 1 (.slice q.K d.keep.length q.m) d.keep.length (d.keep.flatMap ic) ∧ RdP w' p st' ∧ Kept p w.heap.size w w'
theorem built_kind (k : Int) : Tryd.prog.built 38 [(0, .int .i64 k)] = some (Deed.arr { dz with kind := k } wz) := by rw [dz_arr]; kernel_rfl
theorem dd_z {st : Rd} (h : ddK st = 0) : rdDeed st = { dz with kind := 0 } := by unfold rdDeed; simp [h, dN, dD]
section
variable {p : Option Nat} {S S' : Rd} {w w1 w2 : World} {G B : Nat} {X Z : Array Value} {A : Option Addr} {c : Nat} {l : List Int} {x : Int} {L : Nat → Bool} {u : Nat → Value} {v : Value} {j : Nat}
theorem EnvP.belowB {bl : List (Nat × Array Value)} (h : EnvP p S w w1 bl) (hB : w.heap.size ≤ B) (hl : ∀ y ∈ bl, y.1 < B) (k : Below B w1 w2) : EnvP p S w w2 bl := by
  refine ⟨h.low, h.kept.trans (.of_below (k.mono hB)), h.rd.up k (fun g hg => Nat.lt_of_lt_of_le (h.low g hg) hB), ?_⟩
  have h2 := h.blks
  clear h
  induction bl with
  | nil => trivial
  | cons y r ih =>
    obtain ⟨⟨a1, a2, a3⟩, a4⟩ := h2
    exact ⟨⟨a1.below k (hl y (List.mem_cons_self ..)), a2, a3⟩, ih (fun z hz => hl z (List.mem_cons_of_mem _ hz)) a4⟩
structure KM (p : Option Nat) (S S' : Rd) (w : World) (G B : Nat) (X Z : Array Value) (A : Option Addr) (c : Nat) (l : List Int) (x : Int) (L : Nat → Bool) (u : Nat → Value) (w1 : World) : Prop where
  c7 : L 7 = true → L 5 = true
  c5 : L 5 = true → L 4 = true ∧ L 1 = true
  c4 : L 4 = true → L 3 = true
  hB : B ≤ w1.heap.size
  hw : w.heap.size < G
  hG : G < B
  env : EnvP p (if L 3 = true then S' else S) w w1 [(G, if L 7 = true then X.setIfInBounds 61 (u 5) else X), (w.heap.size, Z)]
  own : if L 5 = true then w1.ownsRow B 3 1 (u 5) (l.length + 1) ((l ++ [x]).flatMap ic) else w1.ownsRow B 3 1 (.slice A l.length c) l.length (l.flatMap ic)
  lit : L 4 = true → L 5 = false → ∃ g, u 4 = .slice (some ⟨g, 0, none⟩) 1 1 ∧ Src w1 (some ⟨g, 0, none⟩) 1 1 (ic x)
theorem KM.start (hB : B ≤ w1.heap.size) (hw : w.heap.size < G) (hG : G < B) (e : EnvP p S w w1 [(G, X), (w.heap.size, Z)]) (o : w1.ownsRow B 3 1 (.slice A l.length c) l.length (l.flatMap ic)) : KM p S S' w G B X Z A c l x (fun _ => false) u w1 :=
  ⟨(fun h => by cases h), (fun h => by cases h), (fun h => by cases h), hB, hw, hG, e, o, (fun h => by cases h)⟩
theorem KM.low (h : KM p S S' w G B X Z A c l x L u w1) : ∀ g, p = some g → g < B := fun g hg => by have := h.env.low g hg; have := h.hw; have := h.hG; omega
theorem KM.no4 (h : KM p S S' w G B X Z A c l x L u w1) (h3 : L 3 = false) : L 4 = false := by
  cases e : L 4
  · rfl
  · have := h.c4 e; rw [h3] at this; cases this
theorem KM.no5 (h : KM p S S' w G B X Z A c l x L u w1) (h4 : L 4 = false) : L 5 = false := by
  cases e : L 5
  · rfl
  · have := (h.c5 e).1; rw [h4] at this; cases this
theorem KM.no7 (h : KM p S S' w G B X Z A c l x L u w1) (h5 : L 5 = false) : L 7 = false := by
  cases e : L 7
  · rfl
  · have := h.c7 e; rw [h5] at this; cases this
theorem KM.no5' (h : KM p S S' w G B X Z A c l x L u w1) (h1 : L 1 = false) : L 5 = false := by
  cases e : L 5
  · rfl
  · have := (h.c5 e).2; rw [h1] at this; cases this
theorem KM.pure (h : KM p S S' w G B X Z A c l x L u w1) (h3 : j ≠ 3) (h4 : j ≠ 4) (h5 : j ≠ 5) (h7 : j ≠ 7) : KM p S S' w G B X Z A c l x (upd L j true) (upd u j v) w1 := by
  have e3 : upd L j true 3 = L 3 := upd_other _ _ (Ne.symm h3)
  have e4 : upd L j true 4 = L 4 := upd_other _ _ (Ne.symm h4)
  have e5 : upd L j true 5 = L 5 := upd_other _ _ (Ne.symm h5)
  have e7 : upd L j true 7 = L 7 := upd_other _ _ (Ne.symm h7)
  have f4 : upd u j v 4 = u 4 := upd_other _ _ (Ne.symm h4)
  have f5 : upd u j v 5 = u 5 := upd_other _ _ (Ne.symm h5)
  refine ⟨by rw [e7, e5]; exact h.c7, ?_, by rw [e4, e3]; exact h.c4, h.hB, h.hw, h.hG, by rw [e3, e7, f5]; exact h.env, by rw [e5, f5]; exact h.own, by rw [e4, e5, f4]; exact h.lit⟩
  rw [e5, e4]
  intro hh
  obtain ⟨a, b⟩ := h.c5 hh
  refine ⟨a, ?_⟩
  by_cases hj : 1 = j
  · subst hj; exact upd_same ..
  · rw [upd_other _ _ hj]; exact b
theorem KM.call (h : KM p S S' w G B X Z A c l x L u w1) (h3 : L 3 = false) (r : RdP w2 p S') (k : Kept p w1.heap.size w1 w2) : KM p S S' w G B X Z A c l x (upd L 3 true) (upd u 3 v) w2 := by
  have h4 := h.no4 h3
  have h5 := h.no5 h4
  have h7 := h.no7 h5
  have o := h.own
  have E := h.env
  rw [if_neg (by rw [h5]; simp)] at o
  rw [if_neg (by rw [h3]; simp), if_neg (by rw [h7]; simp)] at E
  have e4 : upd L 3 true 4 = false := (upd_other _ _ (by decide)).trans h4
  have e5 : upd L 3 true 5 = false := (upd_other _ _ (by decide)).trans h5
  have e7 : upd L 3 true 7 = false := (upd_other _ _ (by decide)).trans h7
  refine ⟨(fun e => by rw [e7] at e; cases e), (fun e => by rw [e5] at e; cases e), (fun e => by rw [e4] at e; cases e), Nat.le_trans h.hB k.size, h.hw, h.hG, ?_, ?_, (fun e => by rw [e4] at e; cases e)⟩
  · rw [upd_same, if_pos rfl, if_neg (by rw [e7]; simp)]
    exact E.call r k
  · rw [if_neg (by rw [e5]; simp)]
    exact own_kept o k h.low
theorem KM.make (h : KM p S S' w G B X Z A c l x L u w1) (h3 : L 3 = true) (h4 : L 4 = false) : KM p S S' w G B X Z A c l x (upd L 4 true) (upd u 4 (.slice (some ⟨w1.heap.size, 0, none⟩) 1 1)) (w1.alloc (.cells #[.int .i64 x] 3)) := by
  have h5 := h.no5 h4
  have h7 := h.no7 h5
  have o := h.own
  have E := h.env
  rw [if_neg (by rw [h5]; simp)] at o
  rw [if_pos h3, if_neg (by rw [h7]; simp)] at E
  have e3 : upd L 4 true 3 = true := (upd_other _ _ (by decide)).trans h3
  have e5 : upd L 4 true 5 = false := (upd_other _ _ (by decide)).trans h5
  have e7 : upd L 4 true 7 = false := (upd_other _ _ (by decide)).trans h7
  have hb : Below w1.heap.size w1 (w1.alloc (.cells #[.int .i64 x] 3)) := (Below.refl _ _).alloc (Nat.le_refl _) _
  refine ⟨(fun e => by rw [e7] at e; cases e), (fun e => by rw [e5] at e; cases e), fun _ => e3, Nat.le_trans h.hB hb.size, h.hw, h.hG, ?_, ?_, fun _ _ => ⟨w1.heap.size, upd_same .., Src.new w1 (ic x) _ 1 rfl⟩⟩
  · rw [if_pos e3, if_neg (by rw [e7]; simp)]
    exact E.below hb
  · rw [if_neg (by rw [e5]; simp)]
    exact own_below o hb
theorem KM.app (h : KM p S S' w G B X Z A c l x L u w1) (h1 : L 1 = true) (h4 : L 4 = true) (h5 : L 5 = false) (o : w2.ownsRow B 3 1 v (l.length + 1) (l.flatMap ic ++ ic x)) (k : Below B w1 w2) : KM p S S' w G B X Z A c l x (upd L 5 true) (upd u 5 v) w2 := by
  have h3 := h.c4 h4
  have h7 := h.no7 h5
  have E := h.env
  rw [if_pos h3, if_neg (by rw [h7]; simp)] at E
  have e1 : upd L 5 true 1 = true := (upd_other _ _ (by decide)).trans h1
  have e3 : upd L 5 true 3 = true := (upd_other _ _ (by decide)).trans h3
  have e4 : upd L 5 true 4 = true := (upd_other _ _ (by decide)).trans h4
  have e7 : upd L 5 true 7 = false := (upd_other _ _ (by decide)).trans h7
  have e5 : upd L 5 true 5 = true := upd_same ..
  have hw := h.hw
  have hG := h.hG
  refine ⟨(fun e => by rw [e7] at e; cases e), fun _ => ⟨e4, e1⟩, fun _ => e3, Nat.le_trans h.hB k.size, h.hw, h.hG, ?_, ?_, (fun _ e => by rw [e5] at e; cases e)⟩
  · rw [if_pos e3, if_neg (by rw [e7]; simp)]
    refine E.belowB (by omega) (fun y hy => ?_) k
    rcases List.mem_cons.1 hy with rfl | hy
    · exact hG
    · rw [List.mem_singleton.1 hy]; simp only; omega
  · rw [if_pos e5, upd_same, List.flatMap_append, List.flatMap_cons, List.flatMap_nil, List.append_nil]
    exact o
theorem KM.put (h : KM p S S' w G B X Z A c l x L u w1) (h5 : L 5 = true) (h7 : L 7 = false) : KM p S S' w G B X Z A c l x (upd L 7 true) (upd u 7 v) (w1.setCell ⟨G, 61, none⟩ (u 5)) := by
  have h4 := (h.c5 h5).1
  have h1 := (h.c5 h5).2
  have h3 := h.c4 h4
  have o := h.own
  have E := h.env
  rw [if_pos h5] at o
  rw [if_pos h3, if_neg (by rw [h7]; simp)] at E
  have e1 : upd L 7 true 1 = true := (upd_other _ _ (by decide)).trans h1
  have e3 : upd L 7 true 3 = true := (upd_other _ _ (by decide)).trans h3
  have e4 : upd L 7 true 4 = true := (upd_other _ _ (by decide)).trans h4
  have e5 : upd L 7 true 5 = true := (upd_other _ _ (by decide)).trans h5
  have f5 : upd u 7 v 5 = u 5 := upd_other _ _ (by decide)
  have hG := h.hG
  refine ⟨fun _ => e5, fun _ => ⟨e4, e1⟩, fun _ => e3, Nat.le_trans h.hB (kept_set w1 G 61 (u 5)).size, h.hw, h.hG, ?_, ?_, (fun _ e => by rw [e5] at e; cases e)⟩
  · rw [if_pos e3, if_pos (upd_same ..), f5]
    exact E.store0 61 (u 5)
  · rw [if_pos e5, f5]
    exact own_kept o (kept_set w1 G 61 (u 5)) (fun g hg => by injection hg with hg; omega)
theorem KM.done (h : KM p S S' w G B X Z A c l x (fun j => decide (j < 8)) u w1) : EnvP p S' w w1 [(G, X.setIfInBounds 61 (u 5)), (w.heap.size, Z)] ∧ w1.ownsRow B 3 1 (u 5) (l.length + 1) ((l ++ [x]).flatMap ic) := ⟨h.env, h.own⟩
theorem KM.blk (h : KM p S S' w G B X Z A c l x L u w1) (h7 : L 7 = false) : Blk w1 G X := by
  have := h.env.b0
  rwa [if_neg (by rw [h7]; simp)] at this
end
open Go.RowKit

set_option maxHeartbeats 40000000 in
set_option maxRecDepth 10000 in
theorem script_read_Z (p : Option Nat) (st : Rd) (w : World) (hT : Tab w) (hr : RdP w p st) (hk0 : ddK st = 0) : Calls Tryd.prog 44 #[ptr p] w (RetPD p (rdDeed' st) w (rdDeed st)) := by
  have x2 := dd_z hk0
  obtain ⟨x1, -⟩ := dd_0 hk0
  obtain ⟨K, hK⟩ : ∃ K, K = ddK st := ⟨_, rfl⟩
  rw [← hK] at hk0
  have FE : dE K = false := by unfold dE; simp; omega
  have FN : dN K = false := by unfold dN; simp; omega
  have FD : dD K = false := by unfold dD; simp; omega
  have FF : dF K = false := by unfold dF; simp; omega
  have FW : dW K = false := by unfold dW; simp; omega
  have FK : dK K = false := by unfold dK; simp; omega
  have FT : dT K = false := by unfold dT; simp; omega
  have j0 : (K == 0) = true := by simp; omega
  have X1 := lh x1
  have X2 := lh (show rdDeed st = { dz with kind := K } by rw [x2, hk0])
  have HK := lh (show rdN st 12 = K from hK.symm)
  have HA := lh (show rdF (rdN' st 12) 3 = ddA st from (rdAb'_zero (by rw [show rdN st 12 = ddK st from rfl, ← hK]; omega)).symm)
  have hpT := lh (hr.tab hT)
  have HT := lh hT
  have HRD := lh hr
  clear x1 hk0 hr hT hK x2 
  go_enter Tryd.func44, Tryd.ntmps44
  go_wp2_with (with_reducible refine stop_callS _ rfl ?_)
  refine Stop.mk (EnvP.go HRD.out ?_)
  intro w00 he00 hz00
  have E := lh he00
  clear he00
  go_wp2_with (fail)
  refine (c_octet_RNum p st 12 _ E.out.rd).mono ?_
  rintro e w6 ⟨rfl, hr6, hk6⟩
  rw [HK.out]
  have hz6 := hk6.size
  replace E := lh (E.out.call hr6 hk6)
  clear hr6 hk6
  go_wp2_with (with_reducible refine stop_build 38 _ rfl ?_)
  refine Stop.mk (wpList_buildD rfl _ _ rfl [(0, .int .i64 K)] (by rfl) (Deed.arr { dz with kind := K } wz) (built_kind K) ?_)
  go_wp2_with (with_reducible refine stS 38 (.tmp 3) (.tmp 6) rfl rfl ?_)
  refine Stop.mk (wsB rfl _ _ _ rfl w6.heap.size _ (by first | rfl | simp) rfl _ (Blk.new _ _ _) strOp (Deed.arr_size ⟨rfl, rfl⟩) (by rw [Deed.arr_size ⟨rfl, rfl⟩]; rfl) (Deed.arr_ones ⟨rfl, rfl⟩) ?_)
  intro w7 hb7 hk7
  replace E := lh ((E.out.alloc 38 _).put0 hb7 hk7)
  obtain ⟨G, hG⟩ : ∃ g, g = w6.heap.size := ⟨_, rfl⟩
  have HG := lh (show w.heap.size < G by omega)
  rw [← hG] at E ⊢
  clear hb7 hk7 hG hz6 hz00
  have hw := lh (show Deed.wf { dz with kind := K } from ⟨rfl, rfl⟩)
  have ps := dcs hw.out E.out.b0
  have ff := fun i => E.out.b0.frozen i
  have hlt := E.out.b0.lt
  go_wp2_with (fail)
  clear ps ff hlt
  refine (c_octet_Fail p _ 3 _ E.out.rd).mono ?_
  rintro e w9 ⟨rfl, hr9, hk9⟩
  replace E := lh ((E.out.call hr9 hk9).state (show _ = ddA st from HA.out))
  clear hr9 hk9
  have ps := dcs hw.out E.out.b0
  have ff := fun i => E.out.b0.frozen i
  have hlt := E.out.b0.lt
  go_wp2_with (fail)
  clear ps ff hlt
  refine (csh K 1 _).mono ?_
  rintro e w9 ⟨rfl, hb9⟩
  rw [hasD_E K, FE]
  replace E := lh (E.out.below hb9)
  clear hb9
  have ps := dcs hw.out E.out.b0
  have ff := fun i => E.out.b0.frozen i
  have hlt := E.out.b0.lt
  go_wp2_with (fail)
  clear ps ff hlt
  refine (csh K 2 _).mono ?_
  rintro e w9 ⟨rfl, hb9⟩
  rw [hasD_N K, FN]
  replace E := lh (E.out.below hb9)
  clear hb9
  have ps := dcs hw.out E.out.b0
  have ff := fun i => E.out.b0.frozen i
  have hlt := E.out.b0.lt
  go_wp2_with (fail)
  clear ps ff hlt
  refine (csh K 4 _).mono ?_
  rintro e w9 ⟨rfl, hb9⟩
  rw [hasD_D K, FD]
  replace E := lh (E.out.below hb9)
  clear hb9
  have ps := dcs hw.out E.out.b0
  have ff := fun i => E.out.b0.frozen i
  have hlt := E.out.b0.lt
  go_wp2_with (fail)
  clear ps ff hlt
  refine (csh K 8 _).mono ?_
  rintro e w9 ⟨rfl, hb9⟩
  rw [hasD_F K, FF]
  replace E := lh (E.out.below hb9)
  clear hb9
  have ps := dcs hw.out E.out.b0
  have ff := fun i => E.out.b0.frozen i
  have hlt := E.out.b0.lt
  go_wp2_with (fail)
  clear ps ff hlt
  refine (csh K 16 _).mono ?_
  rintro e w9 ⟨rfl, hb9⟩
  rw [hasD_W K, FW]
  replace E := lh (E.out.below hb9)
  clear hb9
  have ps := dcs hw.out E.out.b0
  have ff := fun i => E.out.b0.frozen i
  have hlt := E.out.b0.lt
  go_wp2_with (fail)
  clear ps ff hlt
  refine (csh K 32 _).mono ?_
  rintro e w9 ⟨rfl, hb9⟩
  rw [hasD_K K, FK]
  replace E := lh (E.out.below hb9)
  clear hb9
  have ps := dcs hw.out E.out.b0
  have ff := fun i => E.out.b0.frozen i
  have hlt := E.out.b0.lt
  go_wp2_with (fail)
  clear ps ff hlt
  refine (csh K 64 _).mono ?_
  rintro e w9 ⟨rfl, hb9⟩
  rw [hasD_T K, FT]
  replace E := lh (E.out.below hb9)
  clear hb9
  have ps := dcs hw.out E.out.b0
  have ff := fun i => E.out.b0.frozen i
  have hlt := E.out.b0.lt
  go_wp2_with (with_reducible refine stop_load 38 (.tmp 3) rfl rfl ?_)
  clear ps ff hlt
  refine Stop.mk (wpList_loadB rfl _ _ rfl G rfl _ E.out.b0 strOp (Deed.arr_size hw.out) ?_)
  go_wp2_with (with_reducible refine stS 38 (.tmp 2) (.tmp 81) rfl rfl ?_)
  refine Stop.mk (wsB rfl _ _ _ rfl w.heap.size _ rfl rfl _ E.out.b1 strOp (Deed.arr_size hw.out) (by rw [Deed.arr_size hw.out]; rfl) (Deed.arr_ones hw.out) ?_)
  intro w99 hb99 hk99
  replace E := lh ((E.out.put1 hb99 hk99).state (show _ = rdDeed' st by rw [X1.out]))
  clear hk99
  go_wp2_with (fail)
  rw [X2.out]
  exact bodyPost_ret (results_B rfl rfl hb99 strOp (Deed.arr_size hw.out)) rfl ⟨wz, rfl, World.ownsRow_nil _ _ _ _, World.ownsRow_nil _ _ _ _, E.out.rd, E.out.kept⟩
set_option maxHeartbeats 40000000 in
set_option maxRecDepth 10000 in
theorem script_read_N (p : Option Nat) (st : Rd) (w : World) (hT : Tab w) (hr : RdP w p st) (hk0 : ddK st = 2 ∨ ddK st = 7 ∨ ddK st = 8 ∨ ddK st = 9 ∨ ddK st = 10) : Calls Tryd.prog 44 #[ptr p] w (RetPD p (rdDeed' st) w (rdDeed st)) := by
  obtain ⟨x1, x2⟩ := dd_N (st := st) (by unfold dN; simp; omega)
  obtain ⟨K, hK⟩ : ∃ K, K = ddK st := ⟨_, rfl⟩
  obtain ⟨D, hD⟩ : ∃ D, D = rdN (ddA st) 1099511627776 := ⟨_, rfl⟩
  have HD := lh hD
  rw [← hK] at hk0
  have FE : dE K = false := by unfold dE; simp; omega
  have FN : dN K = true := by unfold dN; simp; omega
  have FD : dD K = false := by unfold dD; simp; omega
  have FF : dF K = false := by unfold dF; simp; omega
  have FW : dW K = false := by unfold dW; simp; omega
  have FK : dK K = false := by unfold dK; simp; omega
  have FT : dT K = false := by unfold dT; simp; omega
  have j0 : (K == 0) = false := by simp; omega
  have X1 := lh x1
  have X2 := lh (show rdDeed st = { dz with kind := K, n := D } by rw [x2, hK, hD])
  have HK := lh (show rdN st 12 = K from hK.symm)
  have HA := lh (show rdN' st 12 = ddA st from (rdAb'_pos (by rw [show rdN st 12 = ddK st from rfl, ← hK]; omega)).symm)
  have hpT := lh (hr.tab hT)
  have HT := lh hT
  have HRD := lh hr
  clear x1 hk0 hr hT hK x2 hD
  go_enter Tryd.func44, Tryd.ntmps44
  go_wp2_with (with_reducible refine stop_callS _ rfl ?_)
  refine Stop.mk (EnvP.go HRD.out ?_)
  intro w00 he00 hz00
  have E := lh he00
  clear he00
  go_wp2_with (fail)
  refine (c_octet_RNum p st 12 _ E.out.rd).mono ?_
  rintro e w6 ⟨rfl, hr6, hk6⟩
  rw [HK.out]
  have hz6 := hk6.size
  replace E := lh (E.out.call hr6 hk6)
  clear hr6 hk6
  go_wp2_with (with_reducible refine stop_build 38 _ rfl ?_)
  refine Stop.mk (wpList_buildD rfl _ _ rfl [(0, .int .i64 K)] (by rfl) (Deed.arr { dz with kind := K } wz) (built_kind K) ?_)
  go_wp2_with (with_reducible refine stS 38 (.tmp 3) (.tmp 6) rfl rfl ?_)
  refine Stop.mk (wsB rfl _ _ _ rfl w6.heap.size _ (by first | rfl | simp) rfl _ (Blk.new _ _ _) strOp (Deed.arr_size ⟨rfl, rfl⟩) (by rw [Deed.arr_size ⟨rfl, rfl⟩]; rfl) (Deed.arr_ones ⟨rfl, rfl⟩) ?_)
  intro w7 hb7 hk7
  replace E := lh ((E.out.alloc 38 _).put0 hb7 hk7)
  obtain ⟨G, hG⟩ : ∃ g, g = w6.heap.size := ⟨_, rfl⟩
  have HG := lh (show w.heap.size < G by omega)
  rw [← hG] at E ⊢
  clear hb7 hk7 hG hz6 hz00
  have hw := lh (show Deed.wf { dz with kind := K } from ⟨rfl, rfl⟩)
  have ps := dcs hw.out E.out.b0
  have ff := fun i => E.out.b0.frozen i
  have hlt := E.out.b0.lt
  go_wp2_with (fail)
  clear ps ff hlt
  replace E := lh (E.out.state HA.out)
  refine (csh K 1 _).mono ?_
  rintro e w9 ⟨rfl, hb9⟩
  rw [hasD_E K, FE]
  replace E := lh (E.out.below hb9)
  clear hb9
  have ps := dcs hw.out E.out.b0
  have ff := fun i => E.out.b0.frozen i
  have hlt := E.out.b0.lt
  go_wp2_with (fail)
  clear ps ff hlt
  refine (csh K 2 _).mono ?_
  rintro e w9 ⟨rfl, hb9⟩
  rw [hasD_N K, FN]
  replace E := lh (E.out.below hb9)
  clear hb9
  go_wp2_with (fail)
  refine (c_octet_RNum p _ 1099511627776 _ E.out.rd).mono ?_
  rintro e w9 ⟨rfl, hr9, hk9⟩
  rw [← HD.out]
  replace E := lh ((E.out.call hr9 hk9).state (show _ = rdN' (ddA st) 1099511627776 from rfl))
  clear hr9 hk9
  have ps := dcs hw.out E.out.b0
  have ff := fun i => E.out.b0.frozen i
  have hlt := E.out.b0.lt
  go_wp2_with (fail)
  clear ps ff hlt
  replace E := lh ((E.out.store0 1 (.int .i64 D)).as (show _ = Deed.arr { dz with kind := K, n := D } wz from by have := Deed.setI hw.out (q := wz) 1 (by omega) D; simpa using this))
  replace hw := lh (show Deed.wf { dz with kind := K, n := D } from ⟨hw.out.e, hw.out.p⟩)
  refine (csh K 4 _).mono ?_
  rintro e w9 ⟨rfl, hb9⟩
  rw [hasD_D K, FD]
  replace E := lh (E.out.below hb9)
  clear hb9
  have ps := dcs hw.out E.out.b0
  have ff := fun i => E.out.b0.frozen i
  have hlt := E.out.b0.lt
  go_wp2_with (fail)
  clear ps ff hlt
  refine (csh K 8 _).mono ?_
  rintro e w9 ⟨rfl, hb9⟩
  rw [hasD_F K, FF]
  replace E := lh (E.out.below hb9)
  clear hb9
  have ps := dcs hw.out E.out.b0
  have ff := fun i => E.out.b0.frozen i
  have hlt := E.out.b0.lt
  go_wp2_with (fail)
  clear ps ff hlt
  refine (csh K 16 _).mono ?_
  rintro e w9 ⟨rfl, hb9⟩
  rw [hasD_W K, FW]
  replace E := lh (E.out.below hb9)
  clear hb9
  have ps := dcs hw.out E.out.b0
  have ff := fun i => E.out.b0.frozen i
  have hlt := E.out.b0.lt
  go_wp2_with (fail)
  clear ps ff hlt
  refine (csh K 32 _).mono ?_
  rintro e w9 ⟨rfl, hb9⟩
  rw [hasD_K K, FK]
  replace E := lh (E.out.below hb9)
  clear hb9
  have ps := dcs hw.out E.out.b0
  have ff := fun i => E.out.b0.frozen i
  have hlt := E.out.b0.lt
  go_wp2_with (fail)
  clear ps ff hlt
  refine (csh K 64 _).mono ?_
  rintro e w9 ⟨rfl, hb9⟩
  rw [hasD_T K, FT]
  replace E := lh (E.out.below hb9)
  clear hb9
  have ps := dcs hw.out E.out.b0
  have ff := fun i => E.out.b0.frozen i
  have hlt := E.out.b0.lt
  go_wp2_with (with_reducible refine stop_load 38 (.tmp 3) rfl rfl ?_)
  clear ps ff hlt
  refine Stop.mk (wpList_loadB rfl _ _ rfl G rfl _ E.out.b0 strOp (Deed.arr_size hw.out) ?_)
  go_wp2_with (with_reducible refine stS 38 (.tmp 2) (.tmp 81) rfl rfl ?_)
  refine Stop.mk (wsB rfl _ _ _ rfl w.heap.size _ rfl rfl _ E.out.b1 strOp (Deed.arr_size hw.out) (by rw [Deed.arr_size hw.out]; rfl) (Deed.arr_ones hw.out) ?_)
  intro w99 hb99 hk99
  replace E := lh ((E.out.put1 hb99 hk99).state (show _ = rdDeed' st by rw [X1.out]))
  clear hk99
  go_wp2_with (fail)
  rw [X2.out]
  exact bodyPost_ret (results_B rfl rfl hb99 strOp (Deed.arr_size hw.out)) rfl ⟨wz, rfl, World.ownsRow_nil _ _ _ _, World.ownsRow_nil _ _ _ _, E.out.rd, E.out.kept⟩
set_option maxHeartbeats 40000000 in
set_option maxRecDepth 10000 in
theorem script_read_D (p : Option Nat) (st : Rd) (w : World) (hT : Tab w) (hr : RdP w p st) (hk0 : ddK st = 4 ∨ ddK st = 6) : Calls Tryd.prog 44 #[ptr p] w (RetPD p (rdDeed' st) w (rdDeed st)) := by
  obtain ⟨x1, x2⟩ := dd_D hk0
  obtain ⟨K, hK⟩ : ∃ K, K = ddK st := ⟨_, rfl⟩
  obtain ⟨D, hD⟩ : ∃ D, D = rdN (ddA st) 5 := ⟨_, rfl⟩
  have HD := lh hD
  rw [← hK] at hk0
  have FE : dE K = false := by unfold dE; simp; omega
  have FN : dN K = false := by unfold dN; simp; omega
  have FD : dD K = true := by unfold dD; simp; omega
  have FF : dF K = false := by unfold dF; simp; omega
  have FW : dW K = false := by unfold dW; simp; omega
  have FK : dK K = false := by unfold dK; simp; omega
  have FT : dT K = false := by unfold dT; simp; omega
  have j0 : (K == 0) = false := by simp; omega
  have X1 := lh x1
  have X2 := lh (show rdDeed st = { dz with kind := K, dev := D } by rw [x2, hK, hD])
  have HK := lh (show rdN st 12 = K from hK.symm)
  have HA := lh (show rdN' st 12 = ddA st from (rdAb'_pos (by rw [show rdN st 12 = ddK st from rfl, ← hK]; omega)).symm)
  have hpT := lh (hr.tab hT)
  have HT := lh hT
  have HRD := lh hr
  clear x1 hk0 hr hT hK x2 hD
  go_enter Tryd.func44, Tryd.ntmps44
  go_wp2_with (with_reducible refine stop_callS _ rfl ?_)
  refine Stop.mk (EnvP.go HRD.out ?_)
  intro w00 he00 hz00
  have E := lh he00
  clear he00
  go_wp2_with (fail)
  refine (c_octet_RNum p st 12 _ E.out.rd).mono ?_
  rintro e w6 ⟨rfl, hr6, hk6⟩
  rw [HK.out]
  have hz6 := hk6.size
  replace E := lh (E.out.call hr6 hk6)
  clear hr6 hk6
  go_wp2_with (with_reducible refine stop_build 38 _ rfl ?_)
  refine Stop.mk (wpList_buildD rfl _ _ rfl [(0, .int .i64 K)] (by rfl) (Deed.arr { dz with kind := K } wz) (built_kind K) ?_)
  go_wp2_with (with_reducible refine stS 38 (.tmp 3) (.tmp 6) rfl rfl ?_)
  refine Stop.mk (wsB rfl _ _ _ rfl w6.heap.size _ (by first | rfl | simp) rfl _ (Blk.new _ _ _) strOp (Deed.arr_size ⟨rfl, rfl⟩) (by rw [Deed.arr_size ⟨rfl, rfl⟩]; rfl) (Deed.arr_ones ⟨rfl, rfl⟩) ?_)
  intro w7 hb7 hk7
  replace E := lh ((E.out.alloc 38 _).put0 hb7 hk7)
  obtain ⟨G, hG⟩ : ∃ g, g = w6.heap.size := ⟨_, rfl⟩
  have HG := lh (show w.heap.size < G by omega)
  rw [← hG] at E ⊢
  clear hb7 hk7 hG hz6 hz00
  have hw := lh (show Deed.wf { dz with kind := K } from ⟨rfl, rfl⟩)
  have ps := dcs hw.out E.out.b0
  have ff := fun i => E.out.b0.frozen i
  have hlt := E.out.b0.lt
  go_wp2_with (fail)
  clear ps ff hlt
  replace E := lh (E.out.state HA.out)
  refine (csh K 1 _).mono ?_
  rintro e w9 ⟨rfl, hb9⟩
  rw [hasD_E K, FE]
  replace E := lh (E.out.below hb9)
  clear hb9
  have ps := dcs hw.out E.out.b0
  have ff := fun i => E.out.b0.frozen i
  have hlt := E.out.b0.lt
  go_wp2_with (fail)
  clear ps ff hlt
  refine (csh K 2 _).mono ?_
  rintro e w9 ⟨rfl, hb9⟩
  rw [hasD_N K, FN]
  replace E := lh (E.out.below hb9)
  clear hb9
  have ps := dcs hw.out E.out.b0
  have ff := fun i => E.out.b0.frozen i
  have hlt := E.out.b0.lt
  go_wp2_with (fail)
  clear ps ff hlt
  refine (csh K 4 _).mono ?_
  rintro e w9 ⟨rfl, hb9⟩
  rw [hasD_D K, FD]
  replace E := lh (E.out.below hb9)
  clear hb9
  go_wp2_with (fail)
  refine (c_octet_RNum p _ 5 _ E.out.rd).mono ?_
  rintro e w9 ⟨rfl, hr9, hk9⟩
  rw [← HD.out]
  replace E := lh ((E.out.call hr9 hk9).state (show _ = ddB st from rfl))
  clear hr9 hk9
  have ps := dcs hw.out E.out.b0
  have ff := fun i => E.out.b0.frozen i
  have hlt := E.out.b0.lt
  go_wp2_with (fail)
  clear ps ff hlt
  replace E := lh ((E.out.store0 2 (.int .i64 D)).as (show _ = Deed.arr { dz with kind := K, dev := D } wz from by have := Deed.setI hw.out (q := wz) 2 (by omega) D; simpa using this))
  replace hw := lh (show Deed.wf { dz with kind := K, dev := D } from ⟨hw.out.e, hw.out.p⟩)
  refine (csh K 8 _).mono ?_
  rintro e w9 ⟨rfl, hb9⟩
  rw [hasD_F K, FF]
  replace E := lh (E.out.below hb9)
  clear hb9
  have ps := dcs hw.out E.out.b0
  have ff := fun i => E.out.b0.frozen i
  have hlt := E.out.b0.lt
  go_wp2_with (fail)
  clear ps ff hlt
  refine (csh K 16 _).mono ?_
  rintro e w9 ⟨rfl, hb9⟩
  rw [hasD_W K, FW]
  replace E := lh (E.out.below hb9)
  clear hb9
  have ps := dcs hw.out E.out.b0
  have ff := fun i => E.out.b0.frozen i
  have hlt := E.out.b0.lt
  go_wp2_with (fail)
  clear ps ff hlt
  refine (csh K 32 _).mono ?_
  rintro e w9 ⟨rfl, hb9⟩
  rw [hasD_K K, FK]
  replace E := lh (E.out.below hb9)
  clear hb9
  have ps := dcs hw.out E.out.b0
  have ff := fun i => E.out.b0.frozen i
  have hlt := E.out.b0.lt
  go_wp2_with (fail)
  clear ps ff hlt
  refine (csh K 64 _).mono ?_
  rintro e w9 ⟨rfl, hb9⟩
  rw [hasD_T K, FT]
  replace E := lh (E.out.below hb9)
  clear hb9
  have ps := dcs hw.out E.out.b0
  have ff := fun i => E.out.b0.frozen i
  have hlt := E.out.b0.lt
  go_wp2_with (with_reducible refine stop_load 38 (.tmp 3) rfl rfl ?_)
  clear ps ff hlt
  refine Stop.mk (wpList_loadB rfl _ _ rfl G rfl _ E.out.b0 strOp (Deed.arr_size hw.out) ?_)
  go_wp2_with (with_reducible refine stS 38 (.tmp 2) (.tmp 81) rfl rfl ?_)
  refine Stop.mk (wsB rfl _ _ _ rfl w.heap.size _ rfl rfl _ E.out.b1 strOp (Deed.arr_size hw.out) (by rw [Deed.arr_size hw.out]; rfl) (Deed.arr_ones hw.out) ?_)
  intro w99 hb99 hk99
  replace E := lh ((E.out.put1 hb99 hk99).state (show _ = rdDeed' st by rw [X1.out]))
  clear hk99
  go_wp2_with (fail)
  rw [X2.out]
  exact bodyPost_ret (results_B rfl rfl hb99 strOp (Deed.arr_size hw.out)) rfl ⟨wz, rfl, World.ownsRow_nil _ _ _ _, World.ownsRow_nil _ _ _ _, E.out.rd, E.out.kept⟩
set_option maxHeartbeats 40000000 in
set_option maxRecDepth 10000 in
theorem script_read_T (p : Option Nat) (st : Rd) (w : World) (hT : Tab w) (hr : RdP w p st) (hk0 : ddK st = 12) : Calls Tryd.prog 44 #[ptr p] w (RetPD p (rdDeed' st) w (rdDeed st)) := by
  obtain ⟨x1, x2⟩ := dd_12 hk0
  obtain ⟨K, hK⟩ : ∃ K, K = ddK st := ⟨_, rfl⟩
  obtain ⟨D, hD⟩ : ∃ D, D = rdS (ddA st) 4096 := ⟨_, rfl⟩
  have HD := lh hD
  rw [← hK] at hk0
  have FE : dE K = false := by unfold dE; simp; omega
  have FN : dN K = false := by unfold dN; simp; omega
  have FD : dD K = false := by unfold dD; simp; omega
  have FF : dF K = false := by unfold dF; simp; omega
  have FW : dW K = false := by unfold dW; simp; omega
  have FK : dK K = false := by unfold dK; simp; omega
  have FT : dT K = true := by unfold dT; simp; omega
  have j0 : (K == 0) = false := by simp; omega
  have X1 := lh x1
  have X2 := lh (show rdDeed st = { dz with kind := K, text := D } by rw [x2, hk0, hD])
  have HK := lh (show rdN st 12 = K from hK.symm)
  have HA := lh (show rdN' st 12 = ddA st from (rdAb'_pos (by rw [show rdN st 12 = ddK st from rfl, ← hK]; omega)).symm)
  have hpT := lh (hr.tab hT)
  have HT := lh hT
  have HRD := lh hr
  clear x1 hk0 hr hT hK x2 hD
  go_enter Tryd.func44, Tryd.ntmps44
  go_wp2_with (with_reducible refine stop_callS _ rfl ?_)
  refine Stop.mk (EnvP.go HRD.out ?_)
  intro w00 he00 hz00
  have E := lh he00
  clear he00
  go_wp2_with (fail)
  refine (c_octet_RNum p st 12 _ E.out.rd).mono ?_
  rintro e w6 ⟨rfl, hr6, hk6⟩
  rw [HK.out]
  have hz6 := hk6.size
  replace E := lh (E.out.call hr6 hk6)
  clear hr6 hk6
  go_wp2_with (with_reducible refine stop_build 38 _ rfl ?_)
  refine Stop.mk (wpList_buildD rfl _ _ rfl [(0, .int .i64 K)] (by rfl) (Deed.arr { dz with kind := K } wz) (built_kind K) ?_)
  go_wp2_with (with_reducible refine stS 38 (.tmp 3) (.tmp 6) rfl rfl ?_)
  refine Stop.mk (wsB rfl _ _ _ rfl w6.heap.size _ (by first | rfl | simp) rfl _ (Blk.new _ _ _) strOp (Deed.arr_size ⟨rfl, rfl⟩) (by rw [Deed.arr_size ⟨rfl, rfl⟩]; rfl) (Deed.arr_ones ⟨rfl, rfl⟩) ?_)
  intro w7 hb7 hk7
  replace E := lh ((E.out.alloc 38 _).put0 hb7 hk7)
  obtain ⟨G, hG⟩ : ∃ g, g = w6.heap.size := ⟨_, rfl⟩
  have HG := lh (show w.heap.size < G by omega)
  rw [← hG] at E ⊢
  clear hb7 hk7 hG hz6 hz00
  have hw := lh (show Deed.wf { dz with kind := K } from ⟨rfl, rfl⟩)
  have ps := dcs hw.out E.out.b0
  have ff := fun i => E.out.b0.frozen i
  have hlt := E.out.b0.lt
  go_wp2_with (fail)
  clear ps ff hlt
  replace E := lh (E.out.state HA.out)
  refine (csh K 1 _).mono ?_
  rintro e w9 ⟨rfl, hb9⟩
  rw [hasD_E K, FE]
  replace E := lh (E.out.below hb9)
  clear hb9
  have ps := dcs hw.out E.out.b0
  have ff := fun i => E.out.b0.frozen i
  have hlt := E.out.b0.lt
  go_wp2_with (fail)
  clear ps ff hlt
  refine (csh K 2 _).mono ?_
  rintro e w9 ⟨rfl, hb9⟩
  rw [hasD_N K, FN]
  replace E := lh (E.out.below hb9)
  clear hb9
  have ps := dcs hw.out E.out.b0
  have ff := fun i => E.out.b0.frozen i
  have hlt := E.out.b0.lt
  go_wp2_with (fail)
  clear ps ff hlt
  refine (csh K 4 _).mono ?_
  rintro e w9 ⟨rfl, hb9⟩
  rw [hasD_D K, FD]
  replace E := lh (E.out.below hb9)
  clear hb9
  have ps := dcs hw.out E.out.b0
  have ff := fun i => E.out.b0.frozen i
  have hlt := E.out.b0.lt
  go_wp2_with (fail)
  clear ps ff hlt
  refine (csh K 8 _).mono ?_
  rintro e w9 ⟨rfl, hb9⟩
  rw [hasD_F K, FF]
  replace E := lh (E.out.below hb9)
  clear hb9
  have ps := dcs hw.out E.out.b0
  have ff := fun i => E.out.b0.frozen i
  have hlt := E.out.b0.lt
  go_wp2_with (fail)
  clear ps ff hlt
  refine (csh K 16 _).mono ?_
  rintro e w9 ⟨rfl, hb9⟩
  rw [hasD_W K, FW]
  replace E := lh (E.out.below hb9)
  clear hb9
  have ps := dcs hw.out E.out.b0
  have ff := fun i => E.out.b0.frozen i
  have hlt := E.out.b0.lt
  go_wp2_with (fail)
  clear ps ff hlt
  refine (csh K 32 _).mono ?_
  rintro e w9 ⟨rfl, hb9⟩
  rw [hasD_K K, FK]
  replace E := lh (E.out.below hb9)
  clear hb9
  have ps := dcs hw.out E.out.b0
  have ff := fun i => E.out.b0.frozen i
  have hlt := E.out.b0.lt
  go_wp2_with (fail)
  clear ps ff hlt
  refine (csh K 64 _).mono ?_
  rintro e w9 ⟨rfl, hb9⟩
  rw [hasD_T K, FT]
  replace E := lh (E.out.below hb9)
  clear hb9
  go_wp2_with (fail)
  refine (c_octet_RStr p _ 4096 _ E.out.rd).mono ?_
  rintro e w9 ⟨rfl, hr9, hk9⟩
  rw [← HD.out]
  replace E := lh ((E.out.call hr9 hk9).state (show _ = rdS' (ddA st) 4096 from rfl))
  clear hr9 hk9
  have ps := dcs hw.out E.out.b0
  have ff := fun i => E.out.b0.frozen i
  have hlt := E.out.b0.lt
  go_wp2_with (with_reducible refine stop_load 38 (.tmp 3) rfl rfl ?_)
  clear ps ff hlt
  replace E := lh ((E.out.store0 62 (.string (str D))).as (show _ = Deed.arr { dz with kind := K, text := D } wz from by exact Deed.setT hw.out D))
  replace hw := lh (show Deed.wf { dz with kind := K, text := D } from ⟨hw.out.e, hw.out.p⟩)
  refine Stop.mk (wpList_loadB rfl _ _ rfl G rfl _ E.out.b0 strOp (Deed.arr_size hw.out) ?_)
  go_wp2_with (with_reducible refine stS 38 (.tmp 2) (.tmp 81) rfl rfl ?_)
  refine Stop.mk (wsB rfl _ _ _ rfl w.heap.size _ rfl rfl _ E.out.b1 strOp (Deed.arr_size hw.out) (by rw [Deed.arr_size hw.out]; rfl) (Deed.arr_ones hw.out) ?_)
  intro w99 hb99 hk99
  replace E := lh ((E.out.put1 hb99 hk99).state (show _ = rdDeed' st by rw [X1.out]))
  clear hk99
  go_wp2_with (fail)
  rw [X2.out]
  exact bodyPost_ret (results_B rfl rfl hb99 strOp (Deed.arr_size hw.out)) rfl ⟨wz, rfl, World.ownsRow_nil _ _ _ _, World.ownsRow_nil _ _ _ _, E.out.rd, E.out.kept⟩
open Go.RowKit

set_option maxHeartbeats 40000000 in
set_option maxRecDepth 10000 in
theorem script_read_E (p : Option Nat) (st : Rd) (w : World) (hT : Tab w) (hr : RdP w p st) (hk0 : ddK st = 1) : Calls Tryd.prog 44 #[ptr p] w (RetPD p (rdDeed' st) w (rdDeed st)) := by
  obtain ⟨x1, x2⟩ := dd_1 hk0
  obtain ⟨K, hK⟩ : ∃ K, K = ddK st := ⟨_, rfl⟩
  obtain ⟨D, hD⟩ : ∃ D, D = rdEdit (ddA st) := ⟨_, rfl⟩
  have HD := lh hD
  rw [← hK] at hk0
  have FE : dE K = true := by unfold dE; simp; omega
  have FN : dN K = false := by unfold dN; simp; omega
  have FD : dD K = false := by unfold dD; simp; omega
  have FF : dF K = false := by unfold dF; simp; omega
  have FW : dW K = false := by unfold dW; simp; omega
  have FK : dK K = false := by unfold dK; simp; omega
  have FT : dT K = false := by unfold dT; simp; omega
  have j0 : (K == 0) = false := by simp; omega
  have X1 := lh x1
  have X2 := lh (show rdDeed st = { dz with kind := K, e := D } by rw [x2, hk0, hD])
  have HK := lh (show rdN st 12 = K from hK.symm)
  have HA := lh (show rdN' st 12 = ddA st from (rdAb'_pos (by rw [show rdN st 12 = ddK st from rfl, ← hK]; omega)).symm)
  have hpT := lh (hr.tab hT)
  have HT := lh hT
  have HRD := lh hr
  have HL := lh (show D.p.f.length = 8 by rw [hD]; exact rdEdit_len _)
  clear x1 hk0 hr hT hK x2 hD
  go_enter Tryd.func44, Tryd.ntmps44
  go_wp2_with (with_reducible refine stop_callS _ rfl ?_)
  refine Stop.mk (EnvP.go HRD.out ?_)
  intro w00 he00 hz00
  have E := lh he00
  clear he00
  go_wp2_with (fail)
  refine (c_octet_RNum p st 12 _ E.out.rd).mono ?_
  rintro e w6 ⟨rfl, hr6, hk6⟩
  rw [HK.out]
  have hz6 := hk6.size
  replace E := lh (E.out.call hr6 hk6)
  clear hr6 hk6
  go_wp2_with (with_reducible refine stop_build 38 _ rfl ?_)
  refine Stop.mk (wpList_buildD rfl _ _ rfl [(0, .int .i64 K)] (by rfl) (Deed.arr { dz with kind := K } wz) (built_kind K) ?_)
  go_wp2_with (with_reducible refine stS 38 (.tmp 3) (.tmp 6) rfl rfl ?_)
  refine Stop.mk (wsB rfl _ _ _ rfl w6.heap.size _ (by first | rfl | simp) rfl _ (Blk.new _ _ _) strOp (Deed.arr_size ⟨rfl, rfl⟩) (by rw [Deed.arr_size ⟨rfl, rfl⟩]; rfl) (Deed.arr_ones ⟨rfl, rfl⟩) ?_)
  intro w7 hb7 hk7
  replace E := lh ((E.out.alloc 38 _).put0 hb7 hk7)
  obtain ⟨G, hG⟩ : ∃ g, g = w6.heap.size := ⟨_, rfl⟩
  have HG := lh (show w.heap.size < G by omega)
  rw [← hG] at E ⊢
  clear hb7 hk7 hG hz6 hz00
  have hw := lh (show Deed.wf { dz with kind := K } from ⟨rfl, rfl⟩)
  have ps := dcs hw.out E.out.b0
  have ff := fun i => E.out.b0.frozen i
  have hlt := E.out.b0.lt
  go_wp2_with (fail)
  clear ps ff hlt
  replace E := lh (E.out.state HA.out)
  refine (csh K 1 _).mono ?_
  rintro e w9 ⟨rfl, hb9⟩
  rw [hasD_E K, FE]
  replace E := lh (E.out.below hb9)
  clear hb9
  have HTw := lh (HT.out.kept E.out.kept hpT.out)
  go_wp2_with (fail)
  refine (c_edit_Read p _ _ HTw.out E.out.rd).mono ?_
  rintro e w9 ⟨rfl, hr9, hk9⟩
  rw [← HD.out]
  replace E := lh ((E.out.call hr9 hk9).state (show _ = rdEdit' (ddA st) from rfl))
  clear hr9 hk9
  go_wp2_with (with_reducible refine stS 30 (.tmp 17) (.tmp 16) rfl rfl ?_)
  refine Stop.mk (wpList_storeAt rfl _ _ _ rfl G 4 D.arr rfl rfl _ E.out.b0 strE (Edit.sizeE HL.out) (by rw [Edit.sizeE HL.out, Deed.arr_size hw.out]; decide) (Edit.arr_one _) ?_)
  intro w20 hb20 hk20
  replace E := lh (E.out.put0 (show Blk w20 G (Deed.arr { dz with kind := K, e := D } wz) by rw [← Deed.putE hw.out D HL.out]; exact hb20) hk20)
  replace hw := lh (show Deed.wf { dz with kind := K, e := D } from ⟨HL.out, hw.out.p⟩)
  clear hb20 hk20
  clear HTw
  have ps := dcs hw.out E.out.b0
  have ff := fun i => E.out.b0.frozen i
  have hlt := E.out.b0.lt
  go_wp2_with (fail)
  clear ps ff hlt
  refine (csh K 2 _).mono ?_
  rintro e w9 ⟨rfl, hb9⟩
  rw [hasD_N K, FN]
  replace E := lh (E.out.below hb9)
  clear hb9
  have ps := dcs hw.out E.out.b0
  have ff := fun i => E.out.b0.frozen i
  have hlt := E.out.b0.lt
  go_wp2_with (fail)
  clear ps ff hlt
  refine (csh K 4 _).mono ?_
  rintro e w9 ⟨rfl, hb9⟩
  rw [hasD_D K, FD]
  replace E := lh (E.out.below hb9)
  clear hb9
  have ps := dcs hw.out E.out.b0
  have ff := fun i => E.out.b0.frozen i
  have hlt := E.out.b0.lt
  go_wp2_with (fail)
  clear ps ff hlt
  refine (csh K 8 _).mono ?_
  rintro e w9 ⟨rfl, hb9⟩
  rw [hasD_F K, FF]
  replace E := lh (E.out.below hb9)
  clear hb9
  have ps := dcs hw.out E.out.b0
  have ff := fun i => E.out.b0.frozen i
  have hlt := E.out.b0.lt
  go_wp2_with (fail)
  clear ps ff hlt
  refine (csh K 16 _).mono ?_
  rintro e w9 ⟨rfl, hb9⟩
  rw [hasD_W K, FW]
  replace E := lh (E.out.below hb9)
  clear hb9
  have ps := dcs hw.out E.out.b0
  have ff := fun i => E.out.b0.frozen i
  have hlt := E.out.b0.lt
  go_wp2_with (fail)
  clear ps ff hlt
  refine (csh K 32 _).mono ?_
  rintro e w9 ⟨rfl, hb9⟩
  rw [hasD_K K, FK]
  replace E := lh (E.out.below hb9)
  clear hb9
  have ps := dcs hw.out E.out.b0
  have ff := fun i => E.out.b0.frozen i
  have hlt := E.out.b0.lt
  go_wp2_with (fail)
  clear ps ff hlt
  refine (csh K 64 _).mono ?_
  rintro e w9 ⟨rfl, hb9⟩
  rw [hasD_T K, FT]
  replace E := lh (E.out.below hb9)
  clear hb9
  have ps := dcs hw.out E.out.b0
  have ff := fun i => E.out.b0.frozen i
  have hlt := E.out.b0.lt
  go_wp2_with (with_reducible refine stop_load 38 (.tmp 3) rfl rfl ?_)
  clear ps ff hlt
  refine Stop.mk (wpList_loadB rfl _ _ rfl G rfl _ E.out.b0 strOp (Deed.arr_size hw.out) ?_)
  go_wp2_with (with_reducible refine stS 38 (.tmp 2) (.tmp 81) rfl rfl ?_)
  refine Stop.mk (wsB rfl _ _ _ rfl w.heap.size _ rfl rfl _ E.out.b1 strOp (Deed.arr_size hw.out) (by rw [Deed.arr_size hw.out]; rfl) (Deed.arr_ones hw.out) ?_)
  intro w99 hb99 hk99
  replace E := lh ((E.out.put1 hb99 hk99).state (show _ = rdDeed' st by rw [X1.out]))
  clear hk99
  go_wp2_with (fail)
  rw [X2.out]
  exact bodyPost_ret (results_B rfl rfl hb99 strOp (Deed.arr_size hw.out)) rfl ⟨wz, rfl, World.ownsRow_nil _ _ _ _, World.ownsRow_nil _ _ _ _, E.out.rd, E.out.kept⟩
set_option maxHeartbeats 40000000 in
set_option maxRecDepth 10000 in
theorem script_read_F (p : Option Nat) (st : Rd) (w : World) (hT : Tab w) (hr : RdP w p st) (hk0 : ddK st = 3) : Calls Tryd.prog 44 #[ptr p] w (RetPD p (rdDeed' st) w (rdDeed st)) := by
  obtain ⟨x1, x2⟩ := dd_3 hk0
  obtain ⟨K, hK⟩ : ∃ K, K = ddK st := ⟨_, rfl⟩
  obtain ⟨D, hD⟩ : ∃ D, D = rdN (ddA st) 5 := ⟨_, rfl⟩
  have HD := lh hD
  obtain ⟨F, hF⟩ : ∃ D, D = rdPred (ddB st) := ⟨_, rfl⟩
  have HF := lh hF
  obtain ⟨M, hM⟩ : ∃ D : Nat, (D : Int) = rdN (ddF st) 511 := ⟨(rdN (ddF st) 511).toNat, by have := rdN_bd (ddF st) 511; omega⟩
  have HM := lh hM
  rw [← hK] at hk0
  have FE : dE K = false := by unfold dE; simp; omega
  have FN : dN K = false := by unfold dN; simp; omega
  have FD : dD K = true := by unfold dD; simp; omega
  have FF : dF K = true := by unfold dF; simp; omega
  have FW : dW K = false := by unfold dW; simp; omega
  have FK : dK K = false := by unfold dK; simp; omega
  have FT : dT K = false := by unfold dT; simp; omega
  have j0 : (K == 0) = false := by simp; omega
  have X1 := lh x1
  have X2 := lh (show rdDeed st = { dz with kind := K, dev := D, f := F, mask := M } by rw [x2, hk0, hD, hF, ← hM, Int.toNat_natCast])
  have HK := lh (show rdN st 12 = K from hK.symm)
  have HA := lh (show rdN' st 12 = ddA st from (rdAb'_pos (by rw [show rdN st 12 = ddK st from rfl, ← hK]; omega)).symm)
  have hpT := lh (hr.tab hT)
  have HT := lh hT
  have HRD := lh hr
  have hmb := rdN_bd (ddF st) 511
  rw [← hM] at hmb
  have hmi : IntKind.u32.wrap (M : Int) = (M : Int) := by rw [wrap_u32']; omega
  clear x1 hk0 hr hT hK x2 hD hF hM
  go_enter Tryd.func44, Tryd.ntmps44
  go_wp2_with (with_reducible refine stop_callS _ rfl ?_)
  refine Stop.mk (EnvP.go HRD.out ?_)
  intro w00 he00 hz00
  have E := lh he00
  clear he00
  go_wp2_with (fail)
  refine (c_octet_RNum p st 12 _ E.out.rd).mono ?_
  rintro e w6 ⟨rfl, hr6, hk6⟩
  rw [HK.out]
  have hz6 := hk6.size
  replace E := lh (E.out.call hr6 hk6)
  clear hr6 hk6
  go_wp2_with (with_reducible refine stop_build 38 _ rfl ?_)
  refine Stop.mk (wpList_buildD rfl _ _ rfl [(0, .int .i64 K)] (by rfl) (Deed.arr { dz with kind := K } wz) (built_kind K) ?_)
  go_wp2_with (with_reducible refine stS 38 (.tmp 3) (.tmp 6) rfl rfl ?_)
  refine Stop.mk (wsB rfl _ _ _ rfl w6.heap.size _ (by first | rfl | simp) rfl _ (Blk.new _ _ _) strOp (Deed.arr_size ⟨rfl, rfl⟩) (by rw [Deed.arr_size ⟨rfl, rfl⟩]; rfl) (Deed.arr_ones ⟨rfl, rfl⟩) ?_)
  intro w7 hb7 hk7
  replace E := lh ((E.out.alloc 38 _).put0 hb7 hk7)
  obtain ⟨G, hG⟩ : ∃ g, g = w6.heap.size := ⟨_, rfl⟩
  have HG := lh (show w.heap.size < G by omega)
  rw [← hG] at E ⊢
  clear hb7 hk7 hG hz6 hz00
  have hw := lh (show Deed.wf { dz with kind := K } from ⟨rfl, rfl⟩)
  have ps := dcs hw.out E.out.b0
  have ff := fun i => E.out.b0.frozen i
  have hlt := E.out.b0.lt
  go_wp2_with (fail)
  clear ps ff hlt
  replace E := lh (E.out.state HA.out)
  refine (csh K 1 _).mono ?_
  rintro e w9 ⟨rfl, hb9⟩
  rw [hasD_E K, FE]
  replace E := lh (E.out.below hb9)
  clear hb9
  have ps := dcs hw.out E.out.b0
  have ff := fun i => E.out.b0.frozen i
  have hlt := E.out.b0.lt
  go_wp2_with (fail)
  clear ps ff hlt
  refine (csh K 2 _).mono ?_
  rintro e w9 ⟨rfl, hb9⟩
  rw [hasD_N K, FN]
  replace E := lh (E.out.below hb9)
  clear hb9
  have ps := dcs hw.out E.out.b0
  have ff := fun i => E.out.b0.frozen i
  have hlt := E.out.b0.lt
  go_wp2_with (fail)
  clear ps ff hlt
  refine (csh K 4 _).mono ?_
  rintro e w9 ⟨rfl, hb9⟩
  rw [hasD_D K, FD]
  replace E := lh (E.out.below hb9)
  clear hb9
  go_wp2_with (fail)
  refine (c_octet_RNum p _ 5 _ E.out.rd).mono ?_
  rintro e w9 ⟨rfl, hr9, hk9⟩
  rw [← HD.out]
  replace E := lh ((E.out.call hr9 hk9).state (show _ = ddB st from rfl))
  clear hr9 hk9
  have ps := dcs hw.out E.out.b0
  have ff := fun i => E.out.b0.frozen i
  have hlt := E.out.b0.lt
  go_wp2_with (fail)
  clear ps ff hlt
  replace E := lh ((E.out.store0 2 (.int .i64 D)).as (show _ = Deed.arr { dz with kind := K, dev := D } wz from by have := Deed.setI hw.out (q := wz) 2 (by omega) D; simpa using this))
  replace hw := lh (show Deed.wf { dz with kind := K, dev := D } from ⟨hw.out.e, hw.out.p⟩)
  refine (csh K 8 _).mono ?_
  rintro e w9 ⟨rfl, hb9⟩
  rw [hasD_F K, FF]
  replace E := lh (E.out.below hb9)
  clear hb9
  go_wp2_with (fail)
  have hG1 := E.out.b0.lt
  refine (c_predwire_Read p _ _ E.out.rd).mono ?_
  rintro e w9 ⟨v9, rfl, own9, hr9, hk9⟩
  rw [← HF.out] at own9
  replace E := lh ((E.out.call hr9 hk9).state (show _ = ddF st from rfl))
  obtain ⟨A1, n1, rfl, -⟩ := own_form own9
  have O := lh (own_base own9 hG1)
  have HO := lh (show G < G + 1 by omega)
  clear hr9 hk9 own9 hG1
  have ps := dcs hw.out E.out.b0
  have ff := fun i => E.out.b0.frozen i
  have hlt := E.out.b0.lt
  go_wp2_with (fail)
  clear ps ff hlt
  replace O := lh (own_kept O.out (kept_set _ G 33 (.slice A1 F.length n1)) (fun g hg => by injection hg with hg; have := HO.out; omega))
  replace E := lh ((E.out.store0 33 (.slice A1 F.length n1)).as (show _ = Deed.arr { dz with kind := K, dev := D, f := F } ⟨A1, n1, none, 0⟩ from by exact Deed.setF hw.out A1 F n1))
  replace hw := lh (show Deed.wf { dz with kind := K, dev := D, f := F } from ⟨hw.out.e, hw.out.p⟩)
  refine (c_octet_RNum p _ 511 _ E.out.rd).mono ?_
  rintro e w9 ⟨rfl, hr9, hk9⟩
  rw [← HM.out]
  replace O := lh (own_kept O.out hk9 (fun g hg => by have := E.out.low g hg; have := HG.out; have := HO.out; omega))
  replace E := lh ((E.out.call hr9 hk9).state (show _ = rdN' (ddF st) 511 from rfl))
  clear hr9 hk9
  have ps := dcs hw.out E.out.b0
  have ff := fun i => E.out.b0.frozen i
  have hlt := E.out.b0.lt
  go_wp2_with (fail)
  clear ps ff hlt
  replace O := lh (own_kept O.out (kept_set _ G 34 (.int .u32 M)) (fun g hg => by injection hg with hg; have := HO.out; omega))
  replace E := lh ((E.out.store0 34 (.int .u32 M)).as (show _ = Deed.arr { dz with kind := K, dev := D, f := F, mask := M } ⟨A1, n1, none, 0⟩ from by exact Deed.setM hw.out M))
  replace hw := lh (show Deed.wf { dz with kind := K, dev := D, f := F, mask := M } from ⟨hw.out.e, hw.out.p⟩)
  refine (csh K 16 _).mono ?_
  rintro e w9 ⟨rfl, hb9⟩
  rw [hasD_W K, FW]
  replace O := lh (own_below O.out hb9)
  replace E := lh (E.out.below hb9)
  clear hb9
  have ps := dcs hw.out E.out.b0
  have ff := fun i => E.out.b0.frozen i
  have hlt := E.out.b0.lt
  go_wp2_with (fail)
  clear ps ff hlt
  refine (csh K 32 _).mono ?_
  rintro e w9 ⟨rfl, hb9⟩
  rw [hasD_K K, FK]
  replace O := lh (own_below O.out hb9)
  replace E := lh (E.out.below hb9)
  clear hb9
  have ps := dcs hw.out E.out.b0
  have ff := fun i => E.out.b0.frozen i
  have hlt := E.out.b0.lt
  go_wp2_with (fail)
  clear ps ff hlt
  refine (csh K 64 _).mono ?_
  rintro e w9 ⟨rfl, hb9⟩
  rw [hasD_T K, FT]
  replace O := lh (own_below O.out hb9)
  replace E := lh (E.out.below hb9)
  clear hb9
  have ps := dcs hw.out E.out.b0
  have ff := fun i => E.out.b0.frozen i
  have hlt := E.out.b0.lt
  go_wp2_with (with_reducible refine stop_load 38 (.tmp 3) rfl rfl ?_)
  clear ps ff hlt
  refine Stop.mk (wpList_loadB rfl _ _ rfl G rfl _ E.out.b0 strOp (Deed.arr_size hw.out) ?_)
  go_wp2_with (with_reducible refine stS 38 (.tmp 2) (.tmp 81) rfl rfl ?_)
  refine Stop.mk (wsB rfl _ _ _ rfl w.heap.size _ rfl rfl _ E.out.b1 strOp (Deed.arr_size hw.out) (by rw [Deed.arr_size hw.out]; rfl) (Deed.arr_ones hw.out) ?_)
  intro w99 hb99 hk99
  replace O := lh (own_kept O.out hk99 (fun g hg => by injection hg with hg; have := HG.out; have := HO.out; omega))
  replace E := lh ((E.out.put1 hb99 hk99).state (show _ = rdDeed' st by rw [X1.out]))
  clear hk99
  go_wp2_with (fail)
  rw [X2.out]
  exact bodyPost_ret (results_B rfl rfl hb99 strOp (Deed.arr_size hw.out)) rfl ⟨⟨A1, n1, none, 0⟩, rfl, own_base O.out (by have := HG.out; have := HO.out; omega), World.ownsRow_nil _ _ _ _, E.out.rd, E.out.kept⟩
open Go.RowKit

set_option maxHeartbeats 40000000 in
set_option maxRecDepth 10000 in
theorem script_read_K (p : Option Nat) (st : Rd) (w : World) (hT : Tab w) (hr : RdP w p st) (hk0 : ddK st = 11) : Calls Tryd.prog 44 #[ptr p] w (RetPD p (rdDeed' st) w (rdDeed st)) := by
  obtain ⟨x1, x2⟩ := dd_11 hk0
  have hcN : ddC st = (rdN (ddA st) 40).toNat := rfl
  obtain ⟨K, hK⟩ : ∃ K, K = ddK st := ⟨_, rfl⟩
  obtain ⟨N, hN⟩ : ∃ D : Nat, (D : Int) = rdN (ddA st) 40 := ⟨(rdN (ddA st) 40).toNat, by have := rdN_bd (ddA st) 40; omega⟩
  have HN := lh hN
  rw [← hK] at hk0
  have FE : dE K = false := by unfold dE; simp; omega
  have FN : dN K = false := by unfold dN; simp; omega
  have FD : dD K = false := by unfold dD; simp; omega
  have FF : dF K = false := by unfold dF; simp; omega
  have FW : dW K = false := by unfold dW; simp; omega
  have FK : dK K = true := by unfold dK; simp; omega
  have FT : dT K = false := by unfold dT; simp; omega
  have j0 : (K == 0) = false := by simp; omega
  have X1 := lh x1
  have X2 := lh (show rdDeed st = { dz with kind := K, keep := rdInts 2 N (ddL st) } by rw [x2, hk0, hcN, ← hN, Int.toNat_natCast])
  have HK := lh (show rdN st 12 = K from hK.symm)
  have HA := lh (show rdN' st 12 = ddA st from (rdAb'_pos (by rw [show rdN st 12 = ddK st from rfl, ← hK]; omega)).symm)
  have hpT := lh (hr.tab hT)
  have HT := lh hT
  have HRD := lh hr
  rw [hcN, ← hN, Int.toNat_natCast] at x1
  replace X1 := lh x1
  have hN40 := lh (show N ≤ 40 by have := rdN_bd (ddA st) 40; omega)
  clear hcN
  clear x1 hk0 hr hT hK x2 hN
  go_enter Tryd.func44, Tryd.ntmps44
  go_wp2_with (with_reducible refine stop_callS _ rfl ?_)
  refine Stop.mk (EnvP.go HRD.out ?_)
  intro w00 he00 hz00
  have E := lh he00
  clear he00
  go_wp2_with (fail)
  refine (c_octet_RNum p st 12 _ E.out.rd).mono ?_
  rintro e w6 ⟨rfl, hr6, hk6⟩
  rw [HK.out]
  have hz6 := hk6.size
  replace E := lh (E.out.call hr6 hk6)
  clear hr6 hk6
  go_wp2_with (with_reducible refine stop_build 38 _ rfl ?_)
  refine Stop.mk (wpList_buildD rfl _ _ rfl [(0, .int .i64 K)] (by rfl) (Deed.arr { dz with kind := K } wz) (built_kind K) ?_)
  go_wp2_with (with_reducible refine stS 38 (.tmp 3) (.tmp 6) rfl rfl ?_)
  refine Stop.mk (wsB rfl _ _ _ rfl w6.heap.size _ (by first | rfl | simp) rfl _ (Blk.new _ _ _) strOp (Deed.arr_size ⟨rfl, rfl⟩) (by rw [Deed.arr_size ⟨rfl, rfl⟩]; rfl) (Deed.arr_ones ⟨rfl, rfl⟩) ?_)
  intro w7 hb7 hk7
  replace E := lh ((E.out.alloc 38 _).put0 hb7 hk7)
  obtain ⟨G, hG⟩ : ∃ g, g = w6.heap.size := ⟨_, rfl⟩
  have HG := lh (show w.heap.size < G by omega)
  rw [← hG] at E ⊢
  clear hb7 hk7 hG hz6 hz00
  have hw := lh (show Deed.wf { dz with kind := K } from ⟨rfl, rfl⟩)
  have ps := dcs hw.out E.out.b0
  have ff := fun i => E.out.b0.frozen i
  have hlt := E.out.b0.lt
  go_wp2_with (fail)
  clear ps ff hlt
  replace E := lh (E.out.state HA.out)
  refine (csh K 1 _).mono ?_
  rintro e w9 ⟨rfl, hb9⟩
  rw [hasD_E K, FE]
  replace E := lh (E.out.below hb9)
  clear hb9
  have ps := dcs hw.out E.out.b0
  have ff := fun i => E.out.b0.frozen i
  have hlt := E.out.b0.lt
  go_wp2_with (fail)
  clear ps ff hlt
  refine (csh K 2 _).mono ?_
  rintro e w9 ⟨rfl, hb9⟩
  rw [hasD_N K, FN]
  replace E := lh (E.out.below hb9)
  clear hb9
  have ps := dcs hw.out E.out.b0
  have ff := fun i => E.out.b0.frozen i
  have hlt := E.out.b0.lt
  go_wp2_with (fail)
  clear ps ff hlt
  refine (csh K 4 _).mono ?_
  rintro e w9 ⟨rfl, hb9⟩
  rw [hasD_D K, FD]
  replace E := lh (E.out.below hb9)
  clear hb9
  have ps := dcs hw.out E.out.b0
  have ff := fun i => E.out.b0.frozen i
  have hlt := E.out.b0.lt
  go_wp2_with (fail)
  clear ps ff hlt
  refine (csh K 8 _).mono ?_
  rintro e w9 ⟨rfl, hb9⟩
  rw [hasD_F K, FF]
  replace E := lh (E.out.below hb9)
  clear hb9
  have ps := dcs hw.out E.out.b0
  have ff := fun i => E.out.b0.frozen i
  have hlt := E.out.b0.lt
  go_wp2_with (fail)
  clear ps ff hlt
  refine (csh K 16 _).mono ?_
  rintro e w9 ⟨rfl, hb9⟩
  rw [hasD_W K, FW]
  replace E := lh (E.out.below hb9)
  clear hb9
  have ps := dcs hw.out E.out.b0
  have ff := fun i => E.out.b0.frozen i
  have hlt := E.out.b0.lt
  go_wp2_with (fail)
  clear ps ff hlt
  refine (csh K 32 _).mono ?_
  rintro e w9 ⟨rfl, hb9⟩
  rw [hasD_K K, FK]
  replace E := lh (E.out.below hb9)
  clear hb9
  go_wp2_with (fail)
  refine (c_octet_RNum p _ 40 _ E.out.rd).mono ?_
  rintro e w9 ⟨rfl, hr9, hk9⟩
  rw [← HN.out]
  replace E := lh ((E.out.call hr9 hk9).state (show _ = ddL st from rfl))
  clear hr9 hk9
  obtain ⟨B, hB⟩ : ∃ B, B = w9.heap.size := ⟨_, rfl⟩
  have HO := lh (show G < B by rw [hB]; exact E.out.b0.lt)
  have HB0 := lh (show B ≤ w9.heap.size by omega)
  clear hB
  go_wp2_with (fail)
  go_loopw [65] (fun i wr => ∃ (k : Nat) (A : Option Addr) (c : Nat), k ≤ N ∧ i = .int .i64 k ∧ Hid (EnvP p (rdInts' 2 k (ddL st)) w wr [(G, Deed.arr { dz with kind := K, keep := rdInts 2 k (ddL st) } ⟨none, 0, A, c⟩), (w.heap.size, #[.int .i64 0, .int .i64 0, .int .i64 0, .int .i64 0, .int .i64 0, .int .i64 0, .int .i64 0, .int .u32 0, .int .u32 0, .int .i64 0, .int .i64 0, .string (str []), .int .i64 0, .int .i64 0, .string (str []), .int .i64 0, .int .i64 0, .string (str []), .int .i64 0, .int .i64 0, .string (str []), .int .i64 0, .int .i64 0, .string (str []), .int .i64 0, .int .i64 0, .string (str []), .int .i64 0, .int .i64 0, .string (str []), .int .i64 0, .int .i64 0, .string (str []), .slice none 0 0, .int .u32 0, .int .u32 0, .int .u32 0, .int .i64 0, .int .i64 0, .string (str []), .int .i64 0, .int .i64 0, .string (str []), .int .i64 0, .int .i64 0, .string (str []), .int .i64 0, .int .i64 0, .string (str []), .int .i64 0, .int .i64 0, .string (str []), .int .i64 0, .int .i64 0, .string (str []), .int .i64 0, .int .i64 0, .string (str []), .int .i64 0, .int .i64 0, .string (str []), .slice none 0 0, .string (str [])])]) ∧ Hid (wr.ownsRow B 3 1 (.slice A k c) k ((rdInts 2 k (ddL st)).flatMap ic)) ∧ Hid (B ≤ wr.heap.size)) (fun i _ => N - (intOf i).toNat)
  case atStart => exact ⟨0, none, 0, by omega, rfl, E.out, World.ownsRow_nil _ _ _ _, HB0.out⟩
  case round =>
    clear E HB0
    obtain ⟨k, A, c, hkN, rfl, E, O, HBw⟩ := hrel
    by_cases hlt : k < N
    · have d1 : decide ((k : Int) < (N : Int)) = true := by simp; omega
      obtain ⟨sn1, sn2⟩ := rdInts_snoc 2 k (ddL st)
      obtain ⟨S1, hS1⟩ : ∃ S, S = rdInts' 2 k (ddL st) := ⟨_, rfl⟩
      obtain ⟨l, hl⟩ : ∃ l, l = rdInts 2 k (ddL st) := ⟨_, rfl⟩
      obtain ⟨x, hx⟩ : ∃ x, x = rdN S1 2 := ⟨_, rfl⟩
      obtain ⟨S2, hS2⟩ : ∃ S, S = rdN' S1 2 := ⟨_, rfl⟩
      have hln : l.length = k := by rw [hl]; exact rdInts_len 2 k _
      rw [← hS1, ← hl, ← hx] at sn1
      rw [← hS1, ← hS2] at sn2
      have SN1 := lh sn1
      have SN2 := lh sn2
      have HX := lh hx
      have HS2 := lh hS2
      have O1 := lh (show wr.ownsRow B 3 1 (.slice A l.length c) l.length (l.flatMap ic) by rw [hln, hl]; exact O.out)
      have HXX := lh (show (Deed.arr { dz with kind := K, keep := l } ⟨none, 0, A, c⟩)[61]? = some (.slice A l.length c) from (Deed.getK ⟨rfl, rfl⟩ 0 (by omega)).trans rfl)
      rw [← hS1, ← hl] at E
      obtain ⟨X, hX⟩ : ∃ X, X = Deed.arr { dz with kind := K, keep := l } ⟨none, 0, A, c⟩ := ⟨_, rfl⟩
      have HXE := lh hX
      rw [← hX] at E HXX
      have HLN := lh hln
      have hk41 : k < 41 := by have := hN40.out; omega
      have hl8 : l.length ≤ 1000 := by have := hN40.out; omega
      clear sn1 sn2 hS1 hl hx hS2 hX hln O
      go_wp2_with (fail)
      refine wp_region_relM (VV [some (.pointer (some ⟨G, 61, none⟩)), some (.slice A l.length c), some (ptr p), some (.int .i64 x), none, none, some (.pointer (some ⟨G, 61, none⟩)), none]) (KM p S1 S2 w G B X #[.int .i64 0, .int .i64 0, .int .i64 0, .int .i64 0, .int .i64 0, .int .i64 0, .int .i64 0, .int .u32 0, .int .u32 0, .int .i64 0, .int .i64 0, .string (str []), .int .i64 0, .int .i64 0, .string (str []), .int .i64 0, .int .i64 0, .string (str []), .int .i64 0, .int .i64 0, .string (str []), .int .i64 0, .int .i64 0, .string (str []), .int .i64 0, .int .i64 0, .string (str []), .int .i64 0, .int .i64 0, .string (str []), .int .i64 0, .int .i64 0, .string (str []), .slice none 0 0, .int .u32 0, .int .u32 0, .int .u32 0, .int .i64 0, .int .i64 0, .string (str []), .int .i64 0, .int .i64 0, .string (str []), .int .i64 0, .int .i64 0, .string (str []), .int .i64 0, .int .i64 0, .string (str []), .int .i64 0, .int .i64 0, .string (str []), .int .i64 0, .int .i64 0, .string (str []), .int .i64 0, .int .i64 0, .string (str []), .int .i64 0, .int .i64 0, .string (str []), .slice none 0 0, .string (str [])] A c l x) 82 (by kernel_rfl) (by kernel_rfl) rfl ?_ ?_ ?_
      · intro u w' hb hh
        exact KM.start (Nat.le_trans HBw.out hb.size) HG.out HO.out (E.out.below hb) (own_below O1.out hb)
      · refine ⟨?_, ?_, ?_, ?_, ?_, ?_, ?_, ?_, trivial⟩
        all_goals
          rintro L u W1 hM hL hd
          have M := lh hM
          clear hM
          simp [DepsM, Region.binds, VV] at hd
          simp only [putDeps, dstOf, Region.binds]
        case refine_1 | refine_3 | refine_7 =>
          go_wp2_with (fail)
          exact EndM.mk rfl ⟨rfl, M.out.pure (by decide) (by decide) (by decide) (by decide)⟩
        case refine_2 =>
          have q61 := (M.out.blk (M.out.no7 (M.out.no5' hL))).cell HXX.out
          go_wp2_with (fail)
          exact EndM.mk rfl ⟨rfl, M.out.pure (by decide) (by decide) (by decide) (by decide)⟩
        case refine_4 =>
          have r1 : RdP W1 p S1 := by have := M.out.env.rd; rwa [if_neg (by rw [hL]; simp)] at this
          have R1 := lh r1
          clear r1
          go_wp2_with (go_at_call 43; refine (c_octet_RNum p S1 2 _ R1.out).mono ?_; rintro e w9 ⟨rfl, hr9, hk9⟩; rw [← HX.out])
          rw [← HS2.out] at hr9
          exact EndM.mk rfl ⟨rfl, M.out.call hL hr9 hk9⟩
        case refine_5 =>
          go_wp2_with (fail)
          exact EndM.mk rfl ⟨trivial, M.out.make hd.1 hL⟩
        case refine_6 =>
          obtain ⟨⟨hL1, hu1⟩, hL4, -⟩ := hd
          obtain ⟨g, e4, hsrc⟩ := M.out.lit hL4 hL
          have own := M.out.own
          rw [if_neg (by rw [hL]; simp)] at own
          rw [e4]
          go_wp2_with ((at_builtin; refine Stop.out ?_))
          refine Stop.mk (wpList_app _ rfl _ _ elemI rfl B (.slice A l.length c) l.length _ rfl own _ 1 1 (ic x) rfl hsrc (by simp [ic, Value.oneCell']) (by omega) M.out.hB ?_)
          intro v7 w7 own7 _ hb7 _
          exact EndM.mk rfl ⟨trivial, M.out.app hL1 hL4 hL own7 hb7⟩
        case refine_8 =>
          obtain ⟨⟨-, hu6⟩, hL5, -⟩ := hd
          have own := M.out.own
          rw [if_pos hL5] at own
          obtain ⟨A5, c5, e5, -⟩ := own_form own
          have s9 := (M.out.blk hL).cell HXX.out
          have sf := fun i => (M.out.blk hL).frozen i
          have slt := (M.out.blk hL).lt
          have PUT := lh (M.out.put (v := undef) hL5 hL)
          rw [e5] at PUT
          rw [e5]
          clear own
          go_wp2_with (fail)
          exact EndM.mk0 rfl ⟨trivial, PUT.out⟩
      · rintro u W1 hv hM
        obtain ⟨E2, O2⟩ := hM.done
        have hBz := hM.hB
        clear hv hM
        simp only [putAll, Act.put, Nat.reduceAdd, List.setIfInBounds_toArray, List.set_cons_zero, List.set_cons_succ]
        obtain ⟨A2, c2, e5, -⟩ := own_form O2
        rw [e5] at E2 O2 ⊢
        have E3 := lh ((E2.state SN2.out.symm).as (show _ = Deed.arr { dz with kind := K, keep := rdInts 2 (k + 1) (ddL st) } ⟨none, 0, A2, c2⟩ by
          rw [SN1.out, HXE.out]
          have := Deed.setK (o := { dz with kind := K, keep := l }) (q := ⟨none, 0, A, c⟩) ⟨rfl, rfl⟩ A2 (l ++ [x]) c2
          rw [List.length_append, List.length_singleton] at this
          exact this))
        have O3 := lh (show W1.ownsRow B 3 1 (.slice A2 (k + 1) c2) (k + 1) ((rdInts 2 (k + 1) (ddL st)).flatMap ic) by rw [SN1.out, ← HLN.out]; exact O2)
        have HB3 := lh hBz
        clear E2 O2 e5 hBz
        go_wp2_with (fail)
        go_roundw
        case rel => exact ⟨k + 1, A2, c2, by omega, by go_num, E3.out, O3.out, HB3.out⟩
        case measure => simp [intOf]; omega
    · obtain rfl : k = N := by omega
      have d1 : decide ((k : Int) < (k : Int)) = false := by simp
      replace hw := lh (show Deed.wf { dz with kind := K, keep := rdInts 2 k (ddL st) } from ⟨rfl, rfl⟩)
      have hlk : (rdInts 2 k (ddL st)).length = k := rdInts_len 2 k _
      replace O := lh (show wr.ownsRow B 3 1 (.slice A (rdInts 2 k (ddL st)).length c) (rdInts 2 k (ddL st)).length ((rdInts 2 k (ddL st)).flatMap ic) by rw [hlk]; exact O.out)
      clear hlk hlt hkN HBw
      have ps := dcs hw.out E.out.b0
      have ff := fun i => E.out.b0.frozen i
      have hlt := E.out.b0.lt
      go_wp2_with (fail)
      clear ps ff hlt
      refine (csh K 64 _).mono ?_
      rintro e w9 ⟨rfl, hb9⟩
      rw [hasD_T K, FT]
      replace O := lh (own_below O.out hb9)
      replace E := lh (E.out.below hb9)
      clear hb9
      have ps := dcs hw.out E.out.b0
      have ff := fun i => E.out.b0.frozen i
      have hlt := E.out.b0.lt
      go_wp2_with (with_reducible refine stop_load 38 (.tmp 3) rfl rfl ?_)
      clear ps ff hlt
      refine Stop.mk (wpList_loadB rfl _ _ rfl G rfl _ E.out.b0 strOp (Deed.arr_size hw.out) ?_)
      go_wp2_with (with_reducible refine stS 38 (.tmp 2) (.tmp 81) rfl rfl ?_)
      refine Stop.mk (wsB rfl _ _ _ rfl w.heap.size _ rfl rfl _ E.out.b1 strOp (Deed.arr_size hw.out) (by rw [Deed.arr_size hw.out]; rfl) (Deed.arr_ones hw.out) ?_)
      intro w99 hb99 hk99
      replace O := lh (own_kept O.out hk99 (fun g hg => by injection hg with hg; have := HG.out; have := HO.out; omega))
      replace E := lh ((E.out.put1 hb99 hk99).state (show _ = rdDeed' st by rw [X1.out]))
      clear hk99
      go_wp2_with (fail)
      rw [X2.out]
      exact bodyPost_ret (results_B rfl rfl hb99 strOp (Deed.arr_size hw.out)) rfl ⟨⟨none, 0, A, c⟩, rfl, World.ownsRow_nil _ _ _ _, own_base O.out (by have := HG.out; have := HO.out; omega), E.out.rd, E.out.kept⟩
open Go.RowKit

theorem elemOp : Elem Tryd.prog 45 38 63 656 := Elem.mk' (z := .agg (dz.arr wz)) Tryd.underlying45 (by rw [dz_arr0]; kernel_rfl) (Deed.arr_size dz_wf) (by omega) (by omega)
theorem DQ.flat_take (l : List DQ) {k : Nat} (h : k < l.length) : (l.take (k + 1)).flatMap DQ.cells = (l.take k).flatMap DQ.cells ++ l[k].cells := by
  rw [List.take_succ_eq_append_getElem h, List.flatMap_append, List.flatMap_cons, List.flatMap_nil, List.append_nil]
theorem InAt {w : World} {A : Option Addr} {c : Nat} {l : List DQ} (h : In 63 DQ.cells w A c l) {k : Nat} (hk : k < l.length) :
    ∃ b off, A = some ⟨b, off, none⟩ ∧ b < w.heap.size ∧ ∀ w', Below w.heap.size w w' → ∀ j u, (l[k].o.arr l[k].q)[j]? = some u → w'.cell? ⟨b, off + k * 63 + j, none⟩ = some u := by
  obtain ⟨b, off, hA, hb, hrow⟩ := h.at hk
  refine ⟨b, off, hA, hb, fun w' hw j u hu => ?_⟩
  exact (hrow.below hw hb) k hk j u (by unfold DQ.cells; rw [Array.getElem?_toList]; exact hu)
set_option maxHeartbeats 4000000 in
set_option maxRecDepth 10000 in
theorem c_law47_List (l : List DQ) (A : Option Addr) (c : Nat) (w : World) (h : In 63 DQ.cells w A c l) (hl : l.length ≤ 100000) : Calls Tryd.prog 14 #[.slice A l.length c] w (RetS 63 DQ.cells 38 w l) := by
  have hL := h.1
  have hC := h.2.1
  have HH := lh h
  clear h
  go_enter Tryd.func14, Tryd.ntmps14
  go_wp2_with (fail)
  go_loopw [3, 4] (fun v i wr => ∃ (k : Nat), k ≤ l.length ∧ i = .int .i64 k ∧ Hid (Below w.heap.size w wr ∧ wr.ownsRow w.heap.size 38 63 v k ((l.take k).flatMap DQ.cells))) (fun _ i _ => l.length - (intOf i).toNat)
  case atStart => exact ⟨0, by omega, rfl, (by repeat (first | exact Below.refl _ _ | refine Below.drew ?_ | refine Below.alloc ?_ (by first | omega | (simp; done) | (simp; omega)) _ | refine Below.setCell ?_ (by first | omega | (simp; done) | (simp; omega)) _ | refine Below.trans ?_ (Below.mono (by assumption) (by first | omega | (simp; done) | (simp; omega))))), World.ownsRow_lit w #[] 0 (Nat.le_refl _) (by unfold maxLen; omega) (by simp)⟩
  case round =>
    obtain ⟨k, hk, rfl, S⟩ := hrel
    obtain ⟨A9, c9, rfl, -, -⟩ := own_form S.out.2
    have hz := S.out.1.size
    by_cases hlt : k < l.length
    · have d1 : decide ((k : Int) < (l.length : Int)) = true := by simp; omega
      obtain ⟨b, off, hA, hb, hat⟩ := InAt HH.out hlt
      have HT := lh (DQ.flat_take l hlt)
      have HAT := lh hat
      obtain ⟨x, hx⟩ : ∃ x, x = l[k] := ⟨_, rfl⟩
      rw [← hx] at HT HAT
      have hi1 : (0 : Int) ≤ (k : Int) := by omega
      have hi2 : (k : Int) < (l.length : Int) := by omega
      clear hat hx
      subst hA
      go_wp2_with (with_reducible refine slG 34 (.tmp 15) rfl ?_)
      refine Stop.mk (wlG (by rfl) _ _ rfl b (off + k * 63) rfl (x.o.arr x.q) (HAT.out _ S.out.1) strOpR (Deed.arr_size x.wf) ?_)
      go_wp2_with (fail)
      refine (c_law47_To x _).mono ?_
      rintro e w2 ⟨rfl, hb2⟩
      have S2 := lh (show Below w.heap.size w w2 ∧ w2.ownsRow w.heap.size 38 63 (.slice A9 k c9) k ((l.take k).flatMap DQ.cells) from ⟨S.out.1.trans (hb2.mono hz), own_below S.out.2 hb2⟩)
      clear hb2 S
      have hz2 := S2.out.1.size
      go_wp2_with (with_reducible refine stop_lit 45 _ rfl ?_)
      refine Stop.mk (wpList_lit1 rfl _ _ _ rfl elemOp (by omega) _ rfl (Deed.arr_size x.wf) ?_)
      go_wp2_with ((at_builtin; refine Stop.out ?_))
      refine Stop.mk (wpList_app _ rfl _ _ elemOp rfl w.heap.size (.slice A9 k c9) k _ rfl (own_below S2.out.2 ((Below.refl _ _).alloc (Nat.le_refl _) _)) _ 1 1 x.cells rfl (by have := Src.new w2 x.cells 38 63 x.cells_len; unfold DQ.cells at this ⊢; simpa using this) x.one (by omega) (by simp; omega) ?_)
      intro v4 w4 own4 _ hb4 _
      have S4 := lh (show Below w.heap.size w w4 ∧ w4.ownsRow w.heap.size 38 63 v4 (k + 1) ((l.take (k + 1)).flatMap DQ.cells) from ⟨S2.out.1.trans (((Below.refl _ _).alloc hz2 _).trans hb4), by rw [HT.out]; exact own4⟩)
      clear own4 hb4 S2
      go_wp2_with (fail)
      go_roundw
      case rel => exact ⟨k + 1, by omega, by go_num, S4.out⟩
      case measure => simp [intOf]; omega
    · obtain rfl : k = l.length := by omega
      have d1 : decide ((l.length : Int) < (l.length : Int)) = false := by simp
      go_wp2_with (fail)
      go_ret
      refine ⟨_, rfl, ?_, S.out.1⟩
      have := S.out.2
      rwa [List.take_length] at this
open Go.RowKit

theorem deeds_eq_take {la lb : List DQ} (h : la.length = lb.length) (he : (deeds la).take la.length = (deeds lb).take la.length) : deeds la = deeds lb := by
  rw [List.take_of_length_le (by rw [deeds_len']; exact Nat.le_refl _), List.take_of_length_le (by rw [deeds_len']; omega)] at he
  exact he
theorem deeds_ne_at {la lb : List DQ} {k : Nat} (h1 : k < la.length) (h2 : k < lb.length) (hn : la[k].o ≠ lb[k].o) : deeds la ≠ deeds lb := by
  intro e
  apply hn
  have e1 : (deeds la)[k]? = some la[k].o := by unfold deeds; simp [h1]
  have e2 : (deeds lb)[k]? = some lb[k].o := by unfold deeds; simp [h2]
  rw [e, e2] at e1
  injection e1 with e1
  exact e1.symm
set_option maxHeartbeats 40000000 in
set_option maxRecDepth 10000 in
theorem c_law47_same (la lb : List DQ) (A B : Option Addr) (c d : Nat) (w : World) (ha : InQ w A c la) (hb : InQ w B d lb) :
    Calls Tryd.prog 17 #[.slice A la.length c, .slice B lb.length d] w (RetV w (.bool (decide (deeds la = deeds lb)))) := by
  have hL1 := ha.inn.1
  have hC1 := ha.inn.2.1
  have hL2 := hb.inn.1
  have hC2 := hb.inn.2.1
  have HA := lh ha
  have HB := lh hb
  clear ha hb
  by_cases hlen : la.length = lb.length
  case neg =>
    have d1 : ((la.length : Int) != (lb.length : Int)) = true := by simp; omega
    have HE := lh (show decide (deeds la = deeds lb) = false from decide_eq_false (fun e => hlen (by have := congrArg List.length e; rwa [deeds_len', deeds_len'] at this)))
    clear hlen
    go_enter Tryd.func17, Tryd.ntmps17
    go_wp2_with (fail)
    go_ret
    exact RetV.bool HE.out.symm (Below.refl _ _)
  have d1 : ((la.length : Int) != (lb.length : Int)) = false := by simp; omega
  have HLEN := lh hlen
  go_enter Tryd.func17, Tryd.ntmps17
  go_wp2_with (fail)
  go_loopw [5] (fun i wr => ∃ (k : Nat), k ≤ la.length ∧ i = .int .i64 k ∧ Hid ((deeds la).take k = (deeds lb).take k) ∧ Hid (Below w.heap.size w wr)) (fun i _ => la.length - (intOf i).toNat)
  case atStart => exact ⟨0, by omega, rfl, by show _ = _; simp, Below.refl _ _⟩
  case round =>
    obtain ⟨k, hk, rfl, EQ, S⟩ := hrel
    by_cases hlt : k < la.length
    · have d2 : decide ((k : Int) < (la.length : Int)) = true := by simp; omega
      have hlt2 : k < lb.length := by omega
      obtain ⟨b, off, hA, hbl, hat⟩ := HA.out.at hlt
      obtain ⟨b2, off2, hB, hbl2, hat2⟩ := HB.out.at hlt2
      have hax := HA.out.at_ _ (List.getElem_mem hlt)
      have hay := HB.out.at_ _ (List.getElem_mem hlt2)
      have HATX := lh hat
      have HATY := lh hat2
      have HNE := lh (deeds_ne_at hlt hlt2)
      have HTK := lh (show la[k].o = lb[k].o → (deeds la).take (k + 1) = (deeds lb).take (k + 1) from fun e => by rw [deeds_take la hlt, deeds_take lb hlt2, EQ.out, e])
      obtain ⟨x, hx⟩ : ∃ x, x = la[k] := ⟨_, rfl⟩
      obtain ⟨y, hy⟩ : ∃ y, y = lb[k] := ⟨_, rfl⟩
      rw [← hx] at HATX hax HNE HTK
      rw [← hy] at HATY hay HNE HTK
      have AX := lh (hax.below S.out)
      have AY := lh (hay.below S.out)
      have hi1 : (0 : Int) ≤ (k : Int) := by omega
      have hi2 : (k : Int) < (la.length : Int) := by omega
      have hi3 : (k : Int) < (lb.length : Int) := by omega
      clear hat hat2 hax hay hx hy
      subst hA hB
      by_cases heq : x.o = y.o
      · have HEQ := lh (decide_eq_true heq)
        have HT2 := lh (HTK.out heq)
        clear heq
        go_wp2_with (fail)
        refine wp_region_rel [Sp.eq (.slice (some ⟨b, off, none⟩) la.length c), Sp.eq (.int .i64 k), Sp.eq (.pointer (some ⟨b, off + k * 63, none⟩)), Sp.eq (.agg (x.o.arr x.q)), Sp.eq (.agg (x.o.arr x.q)), Sp.eq (.slice (some ⟨b2, off2, none⟩) lb.length d), Sp.eq (.int .i64 k), Sp.eq (.pointer (some ⟨b2, off2 + k * 63, none⟩)), Sp.eq (.agg (y.o.arr y.q)), Sp.eq (.bool true), Sp.eq (.bool false)] 28 (by kernel_rfl) (by kernel_rfl) rfl rfl ?_ ?_
        · refine relgoals_genN fun fr hfr => ?_
          have HFR := lh hfr
          clear hfr
          refine ⟨?_, ?_, ?_, ?_, ?_, ?_, ?_, ?_, ?_, ?_, ?_, trivial⟩
          all_goals (intro u W2 hb2 hd; simp [Deps, Region.binds, Sp.eq_holds] at hd; simp only [putDeps, dstOf, Region.binds])
          case refine_1 | refine_2 | refine_3 | refine_6 | refine_7 | refine_8 | refine_11 =>
            rw [HFR.out]
            go_wp2_with (fail); exact RelEnd.mk rfl (Below.refl _ _) rfl
          case refine_4 =>
            rw [HFR.out]
            go_wp2_with (with_reducible refine slG 38 _ rfl ?_)
            refine Stop.mk (wlG (by simp [Region.wanted]) _ _ rfl b (off + k * 63) rfl (x.o.arr x.q) (HATX.out _ (S.out.trans (hb2.mono S.out.size))) strOp (Deed.arr_size x.wf) ?_)
            go_wp2_with (fail); exact RelEnd.mk rfl (Below.refl _ _) rfl
          case refine_5 =>
            rw [HFR.out]
            go_wp2_with (go_at_call 47; refine (c_law47_From x _).mono ?_; rintro e3 W3 ⟨rfl, hb3⟩)
            exact RelEnd.mk rfl hb3 rfl
          case refine_9 =>
            rw [HFR.out]
            go_wp2_with (with_reducible refine slG 34 _ rfl ?_)
            refine Stop.mk (wlG (by simp [Region.wanted]) _ _ rfl b2 (off2 + k * 63) rfl (y.o.arr y.q) (HATY.out _ (S.out.trans (hb2.mono S.out.size))) strOpR (Deed.arr_size y.wf) ?_)
            go_wp2_with (fail); exact RelEnd.mk rfl (Below.refl _ _) rfl
          case refine_10 =>
            rw [HFR.out]
            go_wp2_with (go_at_call 12; refine (c_ref47_Same x.o y.o x.q y.q _ x.wf y.wf (AX.out.below hb2) (AY.out.below hb2)).mono ?_; rintro e3 W3 ⟨rfl, hb3⟩; rw [HEQ.out])
            exact RelEnd.mk rfl hb3 rfl
        · intro u W2 hb2 hold
          simp only [RelHold, Sp.eq_holds, Nat.reduceAdd] at hold
          obtain ⟨-, -, -, -, -, -, -, -, -, -, hE, -⟩ := hold
          simp only [putAll, Act.put, Nat.reduceAdd, List.setIfInBounds_toArray, List.set_cons_zero, List.set_cons_succ]
          rw [hE]
          replace S := lh (S.out.trans (hb2.mono S.out.size))
          clear hE hb2 AX AY
          go_wp2_with (fail)
          go_roundw
          case rel => exact ⟨k + 1, by omega, by go_num, HT2.out, S.out⟩
          case measure => simp [intOf]; omega
      · have HEQ := lh (decide_eq_false heq)
        have HE := lh (show decide (deeds la = deeds lb) = false from decide_eq_false (HNE.out heq))
        clear heq
        go_wp2_with (fail)
        refine wp_region_rel [Sp.eq (.slice (some ⟨b, off, none⟩) la.length c), Sp.eq (.int .i64 k), Sp.eq (.pointer (some ⟨b, off + k * 63, none⟩)), Sp.eq (.agg (x.o.arr x.q)), Sp.eq (.agg (x.o.arr x.q)), Sp.eq (.slice (some ⟨b2, off2, none⟩) lb.length d), Sp.eq (.int .i64 k), Sp.eq (.pointer (some ⟨b2, off2 + k * 63, none⟩)), Sp.eq (.agg (y.o.arr y.q)), Sp.eq (.bool false), Sp.eq (.bool true)] 28 (by kernel_rfl) (by kernel_rfl) rfl rfl ?_ ?_
        · refine relgoals_genN fun fr hfr => ?_
          have HFR := lh hfr
          clear hfr
          refine ⟨?_, ?_, ?_, ?_, ?_, ?_, ?_, ?_, ?_, ?_, ?_, trivial⟩
          all_goals (intro u W2 hb2 hd; simp [Deps, Region.binds, Sp.eq_holds] at hd; simp only [putDeps, dstOf, Region.binds])
          case refine_1 | refine_2 | refine_3 | refine_6 | refine_7 | refine_8 | refine_11 =>
            rw [HFR.out]
            go_wp2_with (fail); exact RelEnd.mk rfl (Below.refl _ _) rfl
          case refine_4 =>
            rw [HFR.out]
            go_wp2_with (with_reducible refine slG 38 _ rfl ?_)
            refine Stop.mk (wlG (by simp [Region.wanted]) _ _ rfl b (off + k * 63) rfl (x.o.arr x.q) (HATX.out _ (S.out.trans (hb2.mono S.out.size))) strOp (Deed.arr_size x.wf) ?_)
            go_wp2_with (fail); exact RelEnd.mk rfl (Below.refl _ _) rfl
          case refine_5 =>
            rw [HFR.out]
            go_wp2_with (go_at_call 47; refine (c_law47_From x _).mono ?_; rintro e3 W3 ⟨rfl, hb3⟩)
            exact RelEnd.mk rfl hb3 rfl
          case refine_9 =>
            rw [HFR.out]
            go_wp2_with (with_reducible refine slG 34 _ rfl ?_)
            refine Stop.mk (wlG (by simp [Region.wanted]) _ _ rfl b2 (off2 + k * 63) rfl (y.o.arr y.q) (HATY.out _ (S.out.trans (hb2.mono S.out.size))) strOpR (Deed.arr_size y.wf) ?_)
            go_wp2_with (fail); exact RelEnd.mk rfl (Below.refl _ _) rfl
          case refine_10 =>
            rw [HFR.out]
            go_wp2_with (go_at_call 12; refine (c_ref47_Same x.o y.o x.q y.q _ x.wf y.wf (AX.out.below hb2) (AY.out.below hb2)).mono ?_; rintro e3 W3 ⟨rfl, hb3⟩; rw [HEQ.out])
            exact RelEnd.mk rfl hb3 rfl
        · intro u W2 hb2 hold
          simp only [RelHold, Sp.eq_holds, Nat.reduceAdd] at hold
          obtain ⟨-, -, -, -, -, -, -, -, -, -, hE, -⟩ := hold
          simp only [putAll, Act.put, Nat.reduceAdd, List.setIfInBounds_toArray, List.set_cons_zero, List.set_cons_succ]
          rw [hE]
          replace S := lh (S.out.trans (hb2.mono S.out.size))
          clear hE hb2 AX AY
          go_wp2_with (fail)
          go_ret
          exact RetV.bool HE.out.symm S.out
    · obtain rfl : k = la.length := by omega
      have d2 : decide ((la.length : Int) < (la.length : Int)) = false := by simp
      have HE := lh (show decide (deeds la = deeds lb) = true from decide_eq_true (deeds_eq_take HLEN.out EQ.out))
      go_wp2_with (fail)
      go_ret
      exact RetV.bool HE.out.symm S.out
open Go.RowKit

theorem c_script_put (b : List UInt8) (B : Option Addr) (cb : Nat) (o : Deed) (q : Where) (w : World) (hb : InB w B cb b) (hbl : b.length ≤ 800000) (hT : Tab w) (ho : o.fit) (hq : o.at_ w q) (htx : o.text.length ≤ 10000) (hkl : o.keep.length ≤ 100) :
    Calls Tryd.prog 39 #[.slice B b.length cb, .agg (o.arr q)] w (RetS 1 bc 5 w (b ++ deedB o)) := by
  rcases (show ¬ (1 ≤ o.kind ∧ o.kind ≤ 12) ∨ o.kind = 1 ∨ (o.kind = 2 ∨ o.kind = 7 ∨ o.kind = 8 ∨ o.kind = 9 ∨ o.kind = 10) ∨ o.kind = 3 ∨ (o.kind = 4 ∨ o.kind = 6) ∨ o.kind = 5 ∨ o.kind = 11 ∨ o.kind = 12 by omega) with hk | hk | hk | hk | hk | hk | hk | hk
  · exact script_put_Z b B cb o q w hb hbl hT ho hq hk
  · exact script_put_E b B cb o q w hb hbl hT ho hq hk
  · exact script_put_N b B cb o q w hb hbl hT ho hq hk
  · exact script_put_F b B cb o q w hb hbl hT ho hq hk
  · exact script_put_D b B cb o q w hb hbl hT ho hq hk
  · exact script_put_W b B cb o q w hb hbl hT ho hq hk
  · exact script_put_K b B cb o q w hb hbl hT ho hq hkl hk
  · exact script_put_T b B cb o q w hb hbl hT ho hq htx hk
open Go.RowKit

theorem raw_large {w : World} {o : Deed} {q : Where} (h : o.raw w q) : ∀ w', Below w.heap.size w w' → Calls Tryd.prog 19 #[.slice q.A o.f.length q.n] w' (RetV w' (.bool (large o.f))) := by
  intro w' hb
  by_cases h100 : 100 < o.f.length
  · have : large o.f = true := by unfold large; simp [h100]
    rw [this]
    exact c_law10_Large_long o.f.length q.A q.n w' h100 h.f1 h.f2
  · have hin : InN w q.A q.n o.f := ⟨h.f1, h.f2, by omega, h.f3⟩
    exact c_law10_Large o.f q.A q.n w' (hin.below hb) h.f4
theorem deed_ef {w : World} {g : Nat} {c : Deed} {q : Where} (h : c.wf) (hb : Blk w g (c.arr q)) (j : Nat) (u : Value) (hu : (farr c.e.p.f)[j]? = some u) : w.cell? ⟨g, 9 + j, none⟩ = some u := by
  have e1 : c.e.arr[3 + (2 + j)]? = some u := by rw [Edit.arr_tail, Patch.arr_tail]; exact hu
  have := deed_edit h hb (3 + (2 + j)) u e1
  rwa [show 4 + (3 + (2 + j)) = 9 + j by omega] at this
theorem deed_pf {w : World} {g : Nat} {c : Deed} {q : Where} (h : c.wf) (hb : Blk w g (c.arr q)) (j : Nat) (u : Value) (hu : (farr c.p.f)[j]? = some u) : w.cell? ⟨g, 37 + j, none⟩ = some u := by
  have := deed_patch h hb (2 + j) u (by rw [Patch.arr_tail]; exact hu)
  rwa [show 35 + (2 + j) = 37 + j by omega] at this
theorem RawQ.at {w : World} {A : Option Addr} {c : Nat} {l : List DQ} (h : RawQ w A c l) {k : Nat} (hk : k < l.length) :
    ∃ b off, A = some ⟨b, off, none⟩ ∧ b < w.heap.size ∧ ∀ w', Below w.heap.size w w' → ∀ j u, (l[k].o.arr l[k].q)[j]? = some u → w'.cell? ⟨b, off + k * 63 + j, none⟩ = some u := by
  rcases h.row with h0 | ⟨b, off, hA, hb, hrow⟩
  · subst h0; simp at hk
  · exact ⟨b, off, hA, hb, fun w' hw j u hu => (hrow.below hw hb) k hk j u (by unfold DQ.cells; rw [Array.getElem?_toList]; exact hu)⟩
theorem longAll_at {l : List DQ} {k : Nat} (hk : k < l.length) (h : l[k].o.long = true) : longAll l = true := by
  unfold longAll
  rw [Bool.or_eq_true]
  right
  exact List.any_eq_true.2 ⟨_, List.getElem_mem hk, h⟩
set_option maxHeartbeats 8000000 in
set_option maxRecDepth 10000 in
theorem c_law47_Long (l : List DQ) (A : Option Addr) (c : Nat) (w : World) (h : RawQ w A c l) : Calls Tryd.prog 6 #[.slice A l.length c] w (RetV w (.bool (longAll l))) := by
  have hL := h.le
  have hC := h.cap
  have HH := lh h
  by_cases h120 : 120 < l.length
  · have HB := lh (show longAll l = true by unfold longAll; simp [h120])
    have d1 : decide (120 < (l.length : Int)) = true := by simp; omega
    clear h h120
    go_enter Tryd.func6, Tryd.ntmps6
    go_wp2_with (fail)
    go_ret
    exact RetV.bool HB.out.symm (Below.refl _ _)
  have d1 : decide (120 < (l.length : Int)) = false := by simp; omega
  clear h
  go_enter Tryd.func6, Tryd.ntmps6
  go_wp2_with (fail)
  go_loopw [3, 4] (fun i _ wr => ∃ (k : Nat), k ≤ l.length ∧ i = .int .i64 k ∧ Hid (∀ x ∈ l.take k, x.o.long = false) ∧ Hid (Below w.heap.size w wr)) (fun i _ _ => l.length - (intOf i).toNat)
  case atStart => exact ⟨0, by omega, rfl, by intro x hx; simp at hx, Below.refl _ _⟩
  case round =>
    obtain ⟨k, hk, rfl, OK, S⟩ := hrel
    have hz := S.out.size
    by_cases hlt : k < l.length
    · have d2 : decide ((k : Int) < (l.length : Int)) = true := by simp; omega
      obtain ⟨b, off, hA, hb, hat⟩ := HH.out.at hlt
      have HR := lh (HH.out.raw _ (List.getElem_mem hlt))
      have HAT := lh hat
      have HY := lh (longAll_at hlt)
      have HN := lh (show l[k].o.long = false → ∀ x ∈ l.take (k + 1), x.o.long = false from fun e x hx => by
        rw [List.take_succ_eq_append_getElem hlt] at hx
        rcases List.mem_append.1 hx with hx | hx
        · exact OK.out x hx
        · rw [List.mem_singleton.1 hx]; exact e)
      obtain ⟨x, hx⟩ : ∃ x, x = l[k] := ⟨_, rfl⟩
      rw [← hx] at HAT HR HY HN
      obtain ⟨o, q, hwf⟩ := x
      have HE := lh (show o.long = (longF o.e.p.f || (longF o.p.f || (large o.f || (decide (100 < o.keep.length) || decide (6000 < o.text.length))))) from rfl)
      replace HAT := lh (show ∀ w', Below w.heap.size w w' → ∀ j u, (o.arr q)[j]? = some u → w'.cell? ⟨b, off + k * 63 + j, none⟩ = some u from HAT.out)
      replace HR := lh (show o.raw w q from HR.out)
      replace HY := lh (show o.long = true → longAll l = true from HY.out)
      replace HN := lh (show o.long = false → ∀ x ∈ l.take (k + 1), x.o.long = false from HN.out)
      have HF := lh hwf
      have HL := lh (raw_large HR.out)
      have hq1 := HR.out.k.1
      have hq2 := HR.out.k.2.1
      have hq3 := HR.out.t
      have hi1 : (0 : Int) ≤ (k : Int) := by omega
      have hi2 : (k : Int) < (l.length : Int) := by omega
      clear hat hx hwf
      subst hA
      go_wp2_with (with_reducible refine slG 34 (.tmp 16) rfl ?_)
      refine Stop.mk (wlG (by rfl) _ _ rfl b (off + k * 63) rfl (o.arr q) (HAT.out _ S.out) strOpR (Deed.arr_size HF.out) ?_)
      go_wp2_with (with_reducible refine stS 34 (.tmp 4) (.tmp 17) rfl rfl ?_)
      refine Stop.mk (wsB rfl _ _ _ rfl wr.heap.size _ (by first | rfl | simp) rfl _ (Blk.new _ _ _) strOpR (Deed.arr_size HF.out) (by rw [Deed.arr_size HF.out]; rfl) (Deed.arr_ones HF.out) ?_)
      intro w3 hb3 hk3
      have B3 := fresh_below hk3
      obtain ⟨g, hg⟩ : ∃ g, g = wr.heap.size := ⟨_, rfl⟩
      rw [← hg] at hb3 ⊢
      have G := lh hb3
      replace S := lh (S.out.trans (B3.mono hz))
      clear hb3 hk3 B3 hg hz
      cases h1 : longF o.e.p.f
      all_goals
        go_wp2_with (with_reducible refine slG 26 (.tmp 20) rfl ?_)
        refine Stop.mk (wlG (by first | rfl | simp [Region.wanted, yielded]) _ _ rfl g 9 rfl (farr o.e.p.f) (deed_ef HF.out G.out) strF (by rw [farr_size, HF.out.e]) ?_)
        go_wp2_with (fail)
        refine (c_Large o.e.p.f _ HF.out.e).mono ?_
        rintro e w4 ⟨rfl, hb4⟩
        rw [h1]
        replace HE := lh (HE.out.trans (by rw [h1]))
        replace G := lh (G.out.below hb4 G.out.lt)
        replace S := lh (S.out.trans (hb4.mono S.out.size))
        clear hb4 h1
      rotate_left
      · have HY2 := lh (HY.out (by rw [HE.out]; rfl))
        go_wp2_with (fail)
        go_ret
        exact RetV.bool HY2.out.symm S.out
      cases h2 : longF o.p.f
      all_goals
        go_wp2_with (with_reducible refine slG 26 (.tmp 25) rfl ?_)
        refine Stop.mk (wlG (by first | rfl | simp [Region.wanted, yielded]) _ _ rfl g 37 rfl (farr o.p.f) (deed_pf HF.out G.out) strF (by rw [farr_size, HF.out.p]) ?_)
        go_wp2_with (fail)
        refine (c_Large o.p.f _ HF.out.p).mono ?_
        rintro e w4 ⟨rfl, hb4⟩
        rw [h2]
        replace HE := lh (HE.out.trans (by rw [h2]))
        replace G := lh (G.out.below hb4 G.out.lt)
        replace S := lh (S.out.trans (hb4.mono S.out.size))
        clear hb4 h2
      rotate_left
      · have HY2 := lh (HY.out (by rw [HE.out]; rfl))
        go_wp2_with (fail)
        go_ret
        exact RetV.bool HY2.out.symm S.out
      have ps := dcs HF.out G.out
      cases h3 : large o.f
      all_goals
        go_wp2_with (fail)
        refine (HL.out _ S.out).mono ?_
        rintro e w4 ⟨rfl, hb4⟩
        rw [h3]
        replace HE := lh (HE.out.trans (by rw [h3]))
        replace G := lh (G.out.below hb4 G.out.lt)
        replace S := lh (S.out.trans (hb4.mono S.out.size))
        clear hb4 h3 ps
      rotate_left
      · have HY2 := lh (HY.out (by rw [HE.out]; rfl))
        go_wp2_with (fail)
        go_ret
        exact RetV.bool HY2.out.symm S.out
      have ps := dcs HF.out G.out
      by_cases h4 : 100 < o.keep.length
      · have d4 : decide (100 < (o.keep.length : Int)) = true := by simp; omega
        have HY2 := lh (HY.out (by rw [HE.out]; simp [h4]))
        go_wp2_with (fail)
        go_ret
        exact RetV.bool HY2.out.symm S.out
      by_cases h5 : 6000 < o.text.length
      · have d4 : decide (100 < (o.keep.length : Int)) = false := by simp; omega
        have d5 : decide (6000 < (o.text.length : Int)) = true := by simp; omega
        have HY2 := lh (HY.out (by rw [HE.out]; simp [h5]))
        go_wp2_with (fail)
        go_ret
        exact RetV.bool HY2.out.symm S.out
      · have d4 : decide (100 < (o.keep.length : Int)) = false := by simp; omega
        have d5 : decide (6000 < (o.text.length : Int)) = false := by simp; omega
        have HN2 := lh (HN.out (by rw [HE.out]; simp [h4, h5]))
        go_wp2_with (fail)
        go_roundw
        case rel => exact ⟨k + 1, by omega, by go_num, HN2.out, S.out⟩
        case measure => simp [intOf]; omega
    · obtain rfl : k = l.length := by omega
      have d2 : decide ((l.length : Int) < (l.length : Int)) = false := by simp
      have HB := lh (show longAll l = false by
        unfold longAll
        rw [decide_eq_false h120, Bool.false_or]
        have := OK.out
        rw [List.take_length] at this
        rw [List.any_eq_false]
        intro x hx
        rw [this x hx]; simp)
      go_wp2_with (fail)
      go_ret
      exact RetV.bool HB.out.symm S.out
open Go.RowKit

def RkRest (c : Code) : Prop := match (Tryd.f10).body with | some (.seq _ (.seq _ r)) => r = c | _ => False
set_option maxHeartbeats 40000000 in
set_option maxRecDepth 10000 in
theorem rkHead {c : Code} (hc : RkRest c) (o : Deed) (q : Where) (w : World) (Q : Ending → World → Prop) (ho : o.fit)
    (HC : ∀ (w1 : World) (g : Nat) (v : Value), XC w w1 o { dz with kind := o.kind } q wz g → Code.wp Tryd.prog c (bodyPost Tryd.prog Tryd.f10 Q)
      { tmps := #[Value.agg (o.arr q), Value.pointer (some ⟨w.heap.size, 0, none⟩), Value.bool false, Value.pointer (some ⟨g, 0, none⟩), undef, undef, Value.pointer (some ⟨w.heap.size, 0, none⟩), Value.int .i64 o.kind, v, undef, undef, undef, undef, undef, undef, undef, undef, undef, undef, undef, undef, undef, undef, undef, undef, undef, undef, undef, undef, undef, undef, undef, undef, undef, undef, undef, undef, undef, undef, undef, undef, undef, undef, undef, undef, undef, undef, undef, undef, undef, undef, undef, undef, undef, undef, undef, undef, undef, undef, undef, undef, undef, undef, undef, undef, undef, undef, undef, undef, undef, undef, undef, undef, undef, undef, undef, undef, undef, undef, undef, undef, undef, undef, undef, undef, undef, undef, undef, undef, undef, undef, undef, undef, undef, undef, undef, undef, undef, undef, undef, undef, undef, undef, undef, undef, undef, undef, undef, undef, undef, undef, undef, undef, undef, undef, undef, undef, undef, undef, undef, undef, undef, undef, undef, undef, undef, undef, undef, undef, undef, undef, undef, undef, undef, undef, undef, undef, undef, undef, undef, undef, undef, undef, undef, undef, undef, undef, undef, undef, undef, undef, undef, undef, undef, undef, undef, undef, undef, undef, undef, undef, undef, undef, undef], defers := [] } w1) : Calls Tryd.prog 10 #[.agg (o.arr q)] w Q := by
  have hc2 : _ = c := hc
  subst hc2
  have HCC := lh HC
  clear HC
  have B0 := lh (At.new w 34 (o.arr q))
  obtain ⟨q0, q1, q2, q3, q4, q5, q6, q7⟩ := dcs ho.wf B0.out.2
  obtain ⟨R, hR⟩ : ∃ R : Deed, R = { dz with kind := o.kind } := ⟨_, rfl⟩
  have HFe := lh ((show R.arr wz = Deed.arr { dz with kind := o.kind } wz by rw [hR]).trans (dz_arr o.kind))
  have HR := lh hR
  clear ho hR
  go_enter Tryd.func10, Tryd.ntmps10
  go_wp2_with (with_reducible refine stS 34 (.tmp 3) (.tmp 8) rfl rfl ?_)
  refine Stop.mk (wsB rfl _ _ _ rfl (w.heap.size + 1) _ (by first | rfl | simp) rfl _ (blk_two _ _ _ _) strOpR rfl rfl (by simp [Value.oneCell']) ?_)
  intro w1 hb1 hk1
  rw [← HFe.out, HR.out] at hb1
  have S1 : XC w w1 o { dz with kind := o.kind } q wz (w.heap.size + 1) := ⟨(B0.out.1.alloc B0.out.1.size _).trans (hk1.oneB (by simp; omega) (by omega)), (B0.out.2.below ((Below.refl _ _).alloc (Nat.le_refl _) _) B0.out.2.lt).kept hk1 (by simp; omega) (by simp), hb1, by omega⟩
  rename_i K0 KC
  show K0 _ _
  exact KC _ _ (HCC.out w1 (w.heap.size + 1) _ S1)
theorem numS {w w1 : World} {o r : Deed} {q s : Where} {g : Nat} {b : Bool} {K : Ending → World → Prop} (S : Hid (XC w w1 o r q s g)) (HF : Hid o.fit) (hx : dN o.kind = b)
    (c : ∀ w2, Hid (XC w w2 o r q s g) → (w2.cell? ⟨w.heap.size, 0, none⟩ = some (.int .i64 o.kind) ∧ w2.cell? ⟨w.heap.size, 1, none⟩ = some (.int .i64 o.n) ∧ w2.cell? ⟨w.heap.size, 2, none⟩ = some (.int .i64 o.dev) ∧ w2.cell? ⟨w.heap.size, 3, none⟩ = some (.int .i64 o.id) ∧
    w2.cell? ⟨w.heap.size, 33, none⟩ = some (.slice q.A o.f.length q.n) ∧ w2.cell? ⟨w.heap.size, 34, none⟩ = some (.int .u32 o.mask) ∧ w2.cell? ⟨w.heap.size, 61, none⟩ = some (.slice q.K o.keep.length q.m) ∧ w2.cell? ⟨w.heap.size, 62, none⟩ = some (.string (str o.text))) → K (.returned (.bool b)) w2) : Calls Tryd.prog 28 #[.int .i64 o.kind] w1 K :=
  (c_ref47_number o.kind w1).mono (by
    rintro e w2 ⟨rfl, hb⟩
    rw [hx]
    have S2 := lh (S.out.step hb)
    exact c w2 S2 (dcs HF.out.wf S2.out.o))
theorem devS {w w1 : World} {o r : Deed} {q s : Where} {g : Nat} {b : Bool} {K : Ending → World → Prop} (S : Hid (XC w w1 o r q s g)) (HF : Hid o.fit) (hx : dD o.kind = b)
    (c : ∀ w2, Hid (XC w w2 o r q s g) → (w2.cell? ⟨w.heap.size, 0, none⟩ = some (.int .i64 o.kind) ∧ w2.cell? ⟨w.heap.size, 1, none⟩ = some (.int .i64 o.n) ∧ w2.cell? ⟨w.heap.size, 2, none⟩ = some (.int .i64 o.dev) ∧ w2.cell? ⟨w.heap.size, 3, none⟩ = some (.int .i64 o.id) ∧
    w2.cell? ⟨w.heap.size, 33, none⟩ = some (.slice q.A o.f.length q.n) ∧ w2.cell? ⟨w.heap.size, 34, none⟩ = some (.int .u32 o.mask) ∧ w2.cell? ⟨w.heap.size, 61, none⟩ = some (.slice q.K o.keep.length q.m) ∧ w2.cell? ⟨w.heap.size, 62, none⟩ = some (.string (str o.text))) → K (.returned (.bool b)) w2) : Calls Tryd.prog 29 #[.int .i64 o.kind] w1 K :=
  (c_ref47_device o.kind w1).mono (by
    rintro e w2 ⟨rfl, hb⟩
    rw [hx]
    have S2 := lh (S.out.step hb)
    exact c w2 S2 (dcs HF.out.wf S2.out.o))
theorem XC.devS {w w1 : World} {o r : Deed} {q : Where} {g : Nat} (S : XC w w1 o r q wz g) (hR : r = { dz with kind := o.kind }) : XC w (w1.setCell ⟨g, 2, none⟩ (.int .i64 o.dev)) o { dz with kind := o.kind, dev := o.dev } q wz g :=
  S.set (r' := { dz with kind := o.kind, dev := o.dev }) (s' := wz) 2 (.int .i64 o.dev) (by rw [hR]; have := Deed.setI (o := { dz with kind := o.kind }) (q := wz) ⟨rfl, rfl⟩ 2 (by omega) o.dev; simpa using this)
end Go.Proofs.YtiedkcijjfmhaaaDoor
