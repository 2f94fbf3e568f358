/-
  Lemmas (walks and plain laws), in one text.
-/
import Derived.Test.YtiedkcijjfmhaaaDoorSy3
import Derived.Test.YtiedkcijjfmhaaaDoorSy8
import Derived.Test.YtiedkcijjfmhaaaDoorSy14
import Derived.Test.YtiedkcijjfmhaaaDoorSy17
namespace Go.Proofs.YtiedkcijjfmhaaaDoor
open Go.RowKit

theorem strOp : Str Tryd.prog 38 63 := ⟨⟨_, Tryd.underlying38, rfl⟩, by kernel_rfl⟩
theorem dz_arr (k : Int) : Deed.arr { dz with kind := k } wz = #[.int .i64 k, .int .i64 0, .int .i64 0, .int .i64 0, .int .i64 0, .int .i64 0, .int .i64 0, .int .u32 0, .int .u32 0, .int .i64 0, .int .i64 0, .string (str []), .int .i64 0, .int .i64 0, .string (str []), .int .i64 0, .int .i64 0, .string (str []), .int .i64 0, .int .i64 0, .string (str []), .int .i64 0, .int .i64 0, .string (str []), .int .i64 0, .int .i64 0, .string (str []), .int .i64 0, .int .i64 0, .string (str []), .int .i64 0, .int .i64 0, .string (str []), .slice none 0 0, .int .u32 0, .int .u32 0, .int .u32 0, .int .i64 0, .int .i64 0, .string (str []), .int .i64 0, .int .i64 0, .string (str []), .int .i64 0, .int .i64 0, .string (str []), .int .i64 0, .int .i64 0, .string (str []), .int .i64 0, .int .i64 0, .string (str []), .int .i64 0, .int .i64 0, .string (str []), .int .i64 0, .int .i64 0, .string (str []), .int .i64 0, .int .i64 0, .string (str []), .slice none 0 0, .string (str [])] := by unfold Deed.arr Edit.arr Patch.arr; rfl
def RetAlso (g : Nat) (k : Bool) (w : World) (e : Ending) (w' : World) : Prop := e = .returned (.tuple #[]) ∧ Blk w' g #[.bool k] ∧ Kept (some g) w.heap.size w w'
set_option maxHeartbeats 400000 in
theorem c_script_Check1 (b k : Bool) (g : Nat) (w : World) (h : Blk w g #[.bool k]) : Calls Tryd.prog 20 #[.bool b, .pointer (some ⟨g, 0, none⟩)] w (RetAlso g (k && b) w) := by
  have q := h.cell (show #[Value.bool k][0]? = some (.bool k) from rfl)
  have ff := h.frozen 0
  have hlt := h.lt
  have H := lh h
  clear h
  cases k
  all_goals
    go_enter Tryd.func20, Tryd.ntmps20
    go_wp2_with (fail)
    go_end0
    refine ⟨rfl, ?_, kept_set _ _ _ _⟩
    first | exact H.out.store 0 _ | (have := H.out.store 0 (.bool b); simpa using this)
structure SC (w w' : World) (o r : Deed) (q s : Where) (g h : Nat) (k : Bool) : Prop where
  below : Below w.heap.size w w'
  o : Blk w' w.heap.size (o.arr q)
  r : Blk w' g (r.arr s)
  k : Blk w' h #[.bool k]
  hg : w.heap.size < g
  hh : w.heap.size < h
  gh : g ≠ h
section
variable {w w1 w2 : World} {o r r' : Deed} {q s s' : Where} {g h : Nat} {k k' : Bool}
theorem SC.step (c : SC w w1 o r q s g h k) (hb : Below w1.heap.size w1 w2) : SC w w2 o r q s g h k := ⟨c.below.trans (hb.mono c.below.size), c.o.below hb c.o.lt, c.r.below hb c.r.lt, c.k.below hb c.k.lt, c.hg, c.hh, c.gh⟩
theorem SC.put (c : SC w w1 o r q s g h k) (hk : Kept (some g) w1.heap.size w1 w2) (hb : Blk w2 g (r'.arr s')) : SC w w2 o r' q s' g h k :=
  ⟨c.below.trans (hk.oneB c.below.size (by have := c.hg; omega)), c.o.kept hk c.o.lt (fun e => by injection e with e; have := c.hg; omega), hb, c.k.kept hk c.k.lt (fun e => by injection e with e; exact c.gh e), c.hg, c.hh, c.gh⟩
theorem SC.set (c : SC w w1 o r q s g h k) (off : Nat) (v : Value) (e : (r.arr s).setIfInBounds off v = r'.arr s') : SC w (w1.setCell ⟨g, off, none⟩ v) o r' q s' g h k := c.put (kept_set w1 g off v) (e ▸ c.r.store off v)
theorem SC.also (c : SC w w1 o r q s g h k) (hk : Kept (some h) w1.heap.size w1 w2) (hb : Blk w2 h #[.bool k']) : SC w w2 o r q s g h k' :=
  ⟨c.below.trans (hk.oneB c.below.size (by have := c.hh; omega)), c.o.kept hk c.o.lt (fun e => by injection e with e; have := c.hh; omega), c.r.kept hk c.r.lt (fun e => by injection e with e; exact c.gh e.symm), hb, c.hg, c.hh, c.gh⟩
end
def CkM (W0 : World) (Z F : Array Value) (t : Bool) (L : Nat → Bool) (u : Nat → Value) (w1 : World) : Prop :=
  Below W0.heap.size W0 w1 ∧ Bx W0 11 13 Z F L u w1 ∧ Bx W0 12 14 #[.bool false] #[.bool t] L u w1
def VV (l : List (Option Value)) (j : Nat) (v : Value) : Prop := match l[j]? with | some (some x) => v = x | _ => True
theorem dz_arr0 : Deed.arr dz wz = #[.int .i64 0, .int .i64 0, .int .i64 0, .int .i64 0, .int .i64 0, .int .i64 0, .int .i64 0, .int .u32 0, .int .u32 0, .int .i64 0, .int .i64 0, .string (str []), .int .i64 0, .int .i64 0, .string (str []), .int .i64 0, .int .i64 0, .string (str []), .int .i64 0, .int .i64 0, .string (str []), .int .i64 0, .int .i64 0, .string (str []), .int .i64 0, .int .i64 0, .string (str []), .int .i64 0, .int .i64 0, .string (str []), .int .i64 0, .int .i64 0, .string (str []), .slice none 0 0, .int .u32 0, .int .u32 0, .int .u32 0, .int .i64 0, .int .i64 0, .string (str []), .int .i64 0, .int .i64 0, .string (str []), .int .i64 0, .int .i64 0, .string (str []), .int .i64 0, .int .i64 0, .string (str []), .int .i64 0, .int .i64 0, .string (str []), .int .i64 0, .int .i64 0, .string (str []), .int .i64 0, .int .i64 0, .string (str []), .int .i64 0, .int .i64 0, .string (str []), .slice none 0 0, .string (str [])] := dz_arr 0
theorem ckIdle {W0 w1 : World} {Z F : Array Value} {t : Bool} {L : Nat → Bool} {u : Nat → Value} {j : Nat} {v : Value} (B : Below W0.heap.size W0 w1) (X : Bx W0 11 13 Z F L u w1) (Y : Bx W0 12 14 #[.bool false] #[.bool t] L u w1) (h : j ≠ 11 ∧ j ≠ 13 ∧ j ≠ 12 ∧ j ≠ 14) :
    Below W0.heap.size W0 w1 ∧ Bx W0 11 13 Z F (upd L j true) (upd u j v) w1 ∧ Bx W0 12 14 #[.bool false] #[.bool t] (upd L j true) (upd u j v) w1 :=
  ⟨B, X.pure h.1 h.2.1 (Below.refl _ _), Y.pure h.2.2.1 h.2.2.2 (Below.refl _ _)⟩
open Go.RowKit

structure PT (w w' : World) (o : Deed) (q : Where) (acc : List UInt8) (A : Option Addr) (c : Nat) : Prop where
  below : Below w.heap.size w w'
  o : Blk w' w.heap.size (o.arr q)
  own : w'.ownsRow w.heap.size 5 1 (.slice A acc.length c) acc.length (acc.flatMap bc)
theorem In.own4 {α : Type} {k : Nat} {cs : α → List Value} {w : World} {base : Nat} {e : TypeId} {A : Option Addr} {c : Nat} {l : List α} (hk : ∀ x, (cs x).length = k) (h : w.ownsRow base e k (.slice A l.length c) l.length (l.flatMap cs)) (hs : l.length ≤ 4294967296) : In k cs w A c l := by
  obtain ⟨A', c', hv, hin⟩ := In.of_own hk h hs
  injection hv with e1 _ e2
  subst e1 e2
  exact hin
section
variable {w w1 w2 : World} {o : Deed} {q : Where} {acc acc' : List UInt8} {A A' : Option Addr} {c c' : Nat}
theorem PT.step (s : PT w w1 o q acc A c) (hb : Below w1.heap.size w1 w2) : PT w w2 o q acc A c := ⟨s.below.trans (hb.mono s.below.size), s.o.below hb s.o.lt, own_below s.own hb⟩
theorem PT.inb (s : PT w w1 o q acc A c) (h : acc.length ≤ 4294967296) : InB w1 A c acc := In.own4 bc_len s.own h
theorem PT.put (s : PT w w1 o q acc A c) (hb : Below w1.heap.size w1 w2) (own : w2.ownsRow w1.heap.size 5 1 (.slice A' acc'.length c') acc'.length (acc'.flatMap bc)) : PT w w2 o q acc' A' c' :=
  ⟨s.below.trans (hb.mono s.below.size), s.o.below hb s.o.lt, own_base own s.below.size⟩
end
open Go.RowKit

theorem ckMf : ∀ (fn : Fn) (first cap : Array Value) (w : World), (Instr.makeFunc fn first cap).run Tryd.prog w = .ok (.func fn first cap) w := fun _ _ _ _ => rfl
def CkRest (c : Code) : Prop := match (Tryd.f8).body with | some (.seq _ (.seq _ r)) => r = c | _ => False
set_option maxHeartbeats 40000000 in
set_option maxRecDepth 10000 in
theorem ckHead {c : Code} (hc : CkRest c) (o : Deed) (q : Where) (w : World) (Q : Ending → World → Prop) (ho : o.fit) (hq : o.at_ w q) (k1 : 1 ≤ o.kind) (k2 : o.kind ≤ 12)
    (HC : ∀ (W1 : World) (g h : Nat) (u : Nat → Value), SC w W1 o { dz with kind := o.kind } q wz g h true → Code.wp Tryd.prog c (bodyPost Tryd.prog Tryd.f8 Q)
      { tmps := #[Value.agg (o.arr q), Value.pointer (some ⟨w.heap.size, 0, none⟩), Value.bool false, Value.pointer (some ⟨g, 0, none⟩), Value.pointer (some ⟨h, 0, none⟩), undef, u 0, u 1, u 2, u 3, u 4, u 5, u 6, u 7, u 8, u 9, u 10, undef, undef, undef, undef, undef, undef, undef, undef, undef, undef, undef, undef, undef, undef, undef, undef, undef, undef, undef, undef, undef, undef, undef, undef, undef, undef, undef, undef, undef, undef, undef, undef, undef, undef, undef, undef, undef, undef, undef, undef, undef, undef, undef, undef, undef, undef, undef, undef, undef, undef, undef, undef, undef, undef, undef, undef, undef, undef, undef, undef, undef, undef, undef, undef, undef, undef, undef, undef, undef, undef, undef, undef, undef, undef, undef, undef, undef, undef, undef, undef, undef, undef, undef, undef, undef, undef, undef, undef, undef, undef, undef, undef, undef, undef, undef, undef, undef, undef, undef, undef, undef, undef, undef, undef, undef, undef, undef, undef, undef, undef, undef, undef, undef, undef, undef, undef, undef, undef, undef, undef, undef, undef, undef, undef, undef, undef], defers := [] } W1) : Calls Tryd.prog 8 #[.agg (o.arr q)] w Q := by
  have hc2 : _ = c := hc
  subst hc2
  have HCC := lh HC
  clear HC
  have B0 := lh (At.new w 38 (o.arr q))
  obtain ⟨W0, hW0⟩ : ∃ W, W = w.alloc (.cells (o.arr q) 38) := ⟨_, rfl⟩
  have HW0 := lh hW0
  rw [← hW0] at B0
  have HF := lh ho
  have HQ := lh hq
  have d1 : decide (1 ≤ o.kind) = true := by simp; omega
  have d2 : decide (o.kind ≤ 12) = true := by simp; omega
  have d1' : decide (o.kind < 1) = false := by simp; omega
  have d2' : decide (12 < o.kind) = false := by simp; omega
  obtain ⟨q0, q1, q2, q3, q4, q5, q6, q7⟩ := dcs ho.wf B0.out.2
  rw [hW0] at q0
  obtain ⟨R, hR⟩ : ∃ R : Deed, R = { dz with kind := o.kind } := ⟨_, rfl⟩
  have hRw : R.wf := by rw [hR]; exact ⟨rfl, rfl⟩
  obtain ⟨Z, hZ⟩ : ∃ Z, Z = Deed.arr dz wz := ⟨_, rfl⟩
  obtain ⟨F, hF⟩ : ∃ F, F = R.arr wz := ⟨_, rfl⟩
  have hZ63 : Z.size = 63 := by rw [hZ]; exact Deed.arr_size dz_wf
  have hF63 : F.size = 63 := by rw [hF]; exact Deed.arr_size hRw
  have hF1 : (F.all fun x => x.oneCell') = true := by rw [hF]; exact Deed.arr_ones hRw
  have HFe := lh ((show F = Deed.arr { dz with kind := o.kind } wz by rw [hF, hR]).trans (dz_arr o.kind))
  have HZe := lh (hZ.trans dz_arr0)
  have HFr := lh hF
  have HR := lh hR
  clear ho hq hW0 hR hZ hF k1 k2
  go_enter Tryd.func8, Tryd.ntmps8
  go_wp2_with (fail)
  rw [← HW0.out]
  refine wp_region_relM (VV [some (.pointer (some ⟨w.heap.size, 0, none⟩)), some (.int .i64 o.kind), some (.agg F), some (.pointer (some ⟨w.heap.size, 0, none⟩)), some (.int .i64 o.kind), some (.bool true), some (.bool true), some (.pointer (some ⟨w.heap.size, 0, none⟩)), some (.int .i64 o.kind), some (.bool true), some (.bool true)]) (CkM W0 Z F true) 143 (by kernel_rfl) (by kernel_rfl) rfl ?_ ?_ ?_
  · intro u w' hb _
    exact ⟨hb, Bx.start rfl rfl, Bx.start rfl rfl⟩
  · refine ⟨?_, ?_, ?_, ?_, ?_, ?_, ?_, ?_, ?_, ?_, ?_, ?_, ?_, ?_, ?_, trivial⟩
    all_goals
      rintro L u W1 ⟨hB, hX, hY⟩ hL hd
      have X := lh hX
      have Y := lh hY
      have B := lh hB
      clear hX hY hB
      have BO := lh (B0.out.2.below B.out B0.out.2.lt)
      obtain ⟨p0, p1, p2, p3, p4, p5, p6, p7⟩ := dcs HF.out.wf BO.out
      have hz0 := BO.out.lt
      clear p1 p2 p3 p4 p5 p6 p7
      simp [DepsM, Region.binds, VV] at hd
      simp only [putDeps, dstOf, Region.binds]
    case refine_1 | refine_2 | refine_4 | refine_5 | refine_6 | refine_7 | refine_8 | refine_9 | refine_10 | refine_11 =>
      go_wp2_with (fail)
      exact EndM.mk rfl ⟨rfl, ckIdle B.out X.out Y.out (by decide)⟩
    case refine_3 =>
      go_wp2_with (fail)
      exact EndM.mk rfl ⟨by show _ = Value.agg F; rw [HFe.out]; rfl, B.out, X.out.pure (by decide) (by decide) (Below.refl _ _), Y.out.pure (by decide) (by decide) (Below.refl _ _)⟩
    case refine_12 =>
      go_wp2_with (fail)
      refine EndM.mk rfl ⟨trivial, B.out.alloc B.out.size _, ?_, Y.out.pure (by decide) (by decide) ((Below.refl _ _).alloc (Nat.le_refl _) _)⟩
      have := X.out.make hL (by decide) B.out.size 38
      rw [HZe.out] at this ⊢
      exact this
    case refine_13 =>
      go_wp2_with (fail)
      exact EndM.mk rfl ⟨trivial, B.out.alloc B.out.size _, X.out.pure (by decide) (by decide) ((Below.refl _ _).alloc (Nat.le_refl _) _), Y.out.make hL (by decide) B.out.size 4⟩
    case refine_14 =>
      obtain ⟨l11, ⟨-, e2⟩, -⟩ := hd
      obtain ⟨g, e11, hg, hbk⟩ := X.out.at l11 hL
      simp only [e11, e2]
      go_wp2_with (with_reducible refine stS 38 (.tmp 3) (.tmp 8) rfl rfl ?_)
      refine Stop.mk (wsB rfl _ _ _ rfl g _ rfl rfl _ hbk strOp hF63 (by rw [hZ63, hF63]) hF1 ?_)
      intro w2 hb2 hk2
      go_wp2_with (fail)
      exact EndM.mk0 rfl ⟨trivial, B.out.trans (hk2.oneB B.out.size hg), X.out.fill l11 (by decide) e11 hg hb2, Y.out.far (by decide) (by decide) hbk (by rw [hZ63]; decide) (by rw [hZ63]; decide) hk2⟩
    case refine_15 =>
      obtain ⟨l12, ⟨-, e10⟩, -⟩ := hd
      obtain ⟨g, e12, hg, hbk⟩ := Y.out.at l12 hL
      simp only [e12, e10]
      have c0 := hbk.cell (show #[Value.bool false][0]? = some (.bool false) from rfl)
      have ff := hbk.frozen 0
      have hlt := hbk.lt
      go_wp2_with (fail)
      exact EndM.mk0 rfl ⟨trivial, B.out.trans ((kept_set _ _ _ _).oneB B.out.size hg), X.out.far (by decide) (by decide) hbk (by rw [hZ63]; decide) (by rw [hF63]; decide) (kept_set _ _ _ _), Y.out.fill l12 (by decide) e12 hg (hbk.store 0 _)⟩
  · rintro u W1 hv ⟨hB, hX, hY⟩
    obtain ⟨g, e11, hg, hbg⟩ := hX.done (by decide) (by decide)
    obtain ⟨h, e12, hh, hbh⟩ := hY.done (by decide) (by decide)
    have hsz := B0.out.2.lt
    have S := lh (show SC w W1 o R q wz g h true from ⟨B0.out.1.trans (hB.mono B0.out.1.size), B0.out.2.below hB B0.out.2.lt, HFr.out ▸ hbg, hbh, by omega, by omega, fun e => by subst e; have := congrArg Array.size (Blk.inj hbg hbh); rw [hF63] at this; simp at this⟩)
    clear hv hX hY hB hbg hbh hg hh hsz
    simp only [putAll, Act.put, Nat.reduceAdd, List.setIfInBounds_toArray, List.set_cons_zero, List.set_cons_succ]
    rw [e11, e12]
    clear e11 e12 HW0 B0
    have S1 : SC w W1 o { dz with kind := o.kind } q wz g h true := by rw [← HR.out]; exact S.out
    rename_i K0 KC
    show K0 _ _
    exact KC _ _ (HCC.out W1 g h u S1)
theorem hasS {w w1 : World} {o r : Deed} {q s : Where} {g h : Nat} {k b : Bool} {K : Ending → World → Prop} (S : Hid (SC w w1 o r q s g h k)) (HF : Hid o.fit) {x : Int} (hx : hasD o.kind x = b)
    (c : ∀ w2, Hid (SC w w2 o r q s g h k) → (w2.cell? ⟨w.heap.size, 0, none⟩ = some (.int .i64 o.kind) ∧ w2.cell? ⟨w.heap.size, 1, none⟩ = some (.int .i64 o.n) ∧ w2.cell? ⟨w.heap.size, 2, none⟩ = some (.int .i64 o.dev) ∧ w2.cell? ⟨w.heap.size, 3, none⟩ = some (.int .i64 o.id) ∧
    w2.cell? ⟨w.heap.size, 33, none⟩ = some (.slice q.A o.f.length q.n) ∧ w2.cell? ⟨w.heap.size, 34, none⟩ = some (.int .u32 o.mask) ∧ w2.cell? ⟨w.heap.size, 61, none⟩ = some (.slice q.K o.keep.length q.m) ∧ w2.cell? ⟨w.heap.size, 62, none⟩ = some (.string (str o.text))) → K (.returned (.bool b)) w2) : Calls Tryd.prog 21 #[.int .i64 o.kind, .int .i64 x] w1 K :=
  (csh o.kind x w1).mono (by
    rintro e w2 ⟨rfl, hb⟩
    rw [hx]
    have S2 := lh (S.out.step hb)
    exact c w2 S2 (dcs HF.out.wf S2.out.o))
theorem stepS {w w1 : World} {o r : Deed} {q s : Where} {g h : Nat} {k : Bool} {K : Ending → World → Prop} (S : Hid (SC w w1 o r q s g h k)) (HF : Hid o.fit) {P : Program} {f : FuncId} {args : Array Value} {v : Value} (hc : Calls P f args w1 (RetV w1 v))
    (c : ∀ w2, Hid (SC w w2 o r q s g h k) → (w2.cell? ⟨w.heap.size, 0, none⟩ = some (.int .i64 o.kind) ∧ w2.cell? ⟨w.heap.size, 1, none⟩ = some (.int .i64 o.n) ∧ w2.cell? ⟨w.heap.size, 2, none⟩ = some (.int .i64 o.dev) ∧ w2.cell? ⟨w.heap.size, 3, none⟩ = some (.int .i64 o.id) ∧
    w2.cell? ⟨w.heap.size, 33, none⟩ = some (.slice q.A o.f.length q.n) ∧ w2.cell? ⟨w.heap.size, 34, none⟩ = some (.int .u32 o.mask) ∧ w2.cell? ⟨w.heap.size, 61, none⟩ = some (.slice q.K o.keep.length q.m) ∧ w2.cell? ⟨w.heap.size, 62, none⟩ = some (.string (str o.text))) → K (.returned v) w2) : Calls P f args w1 K :=
  hc.mono (by
    rintro e w2 ⟨rfl, hb⟩
    have S2 := lh (S.out.step hb)
    exact c w2 S2 (dcs HF.out.wf S2.out.o))
theorem alsoS {w w1 : World} {o r : Deed} {q s : Where} {g h : Nat} {k b : Bool} {K : Ending → World → Prop} (S : Hid (SC w w1 o r q s g h k)) (HF : Hid o.fit)
    (c : ∀ w2, Hid (SC w w2 o r q s g h (k && b)) → (w2.cell? ⟨w.heap.size, 0, none⟩ = some (.int .i64 o.kind) ∧ w2.cell? ⟨w.heap.size, 1, none⟩ = some (.int .i64 o.n) ∧ w2.cell? ⟨w.heap.size, 2, none⟩ = some (.int .i64 o.dev) ∧ w2.cell? ⟨w.heap.size, 3, none⟩ = some (.int .i64 o.id) ∧
    w2.cell? ⟨w.heap.size, 33, none⟩ = some (.slice q.A o.f.length q.n) ∧ w2.cell? ⟨w.heap.size, 34, none⟩ = some (.int .u32 o.mask) ∧ w2.cell? ⟨w.heap.size, 61, none⟩ = some (.slice q.K o.keep.length q.m) ∧ w2.cell? ⟨w.heap.size, 62, none⟩ = some (.string (str o.text))) → K (.returned (.tuple #[])) w2) : Calls Tryd.prog 20 #[.bool b, .pointer (some ⟨h, 0, none⟩)] w1 K :=
  (c_script_Check1 b k h w1 S.out.k).mono (by
    rintro e w2 ⟨rfl, hbk, hkk⟩
    have S2 := lh (S.out.also hkk hbk)
    exact c w2 S2 (dcs HF.out.wf S2.out.o))
theorem SC.devS {w w1 : World} {o r : Deed} {q : Where} {g h : Nat} {k : Bool} (S : SC w w1 o r q wz g h k) (hR : r = { dz with kind := o.kind }) : SC w (w1.setCell ⟨g, 2, none⟩ (.int .i64 o.dev)) o { dz with kind := o.kind, dev := o.dev } q wz g h k :=
  S.set (r' := { dz with kind := o.kind, dev := o.dev }) (s' := wz) 2 (.int .i64 o.dev) (by rw [hR]; have := Deed.setI (o := { dz with kind := o.kind }) (q := wz) ⟨rfl, rfl⟩ 2 (by omega) o.dev; simpa using this)
open Go.RowKit

def keepBad (n : Int) : Bool := decide (n < 0) || decide (2 < n)
set_option maxHeartbeats 400000 in
theorem c_script_Check2 (n : Int) (w : World) : Calls Tryd.prog 27 #[.int .i64 n] w (RetV w (.bool (keepBad n))) := by
  by_cases h : n < 0
  · have d1 : decide (n < 0) = true := by simpa using h
    have H := lh (show keepBad n = true by unfold keepBad; rw [d1]; rfl)
    clear h
    go_enter Tryd.func27, Tryd.ntmps27
    go_wp2_with (fail)
    go_ret
    exact RetV.bool H.out.symm (by repeat (first | exact Below.refl _ _ | refine Below.drew ?_ | refine Below.alloc ?_ (by first | omega | (simp; done) | (simp; omega)) _ | refine Below.setCell ?_ (by first | omega | (simp; done) | (simp; omega)) _ | refine Below.trans ?_ (Below.mono (by assumption) (by first | omega | (simp; done) | (simp; omega)))))
  · have d1 : decide (n < 0) = false := by simpa using h
    have H := lh (show keepBad n = decide (2 < n) by unfold keepBad; rw [d1]; rfl)
    clear h
    go_enter Tryd.func27, Tryd.ntmps27
    go_wp2_with (fail)
    all_goals
      go_ret
      refine RetV.bool ?_ (by repeat (first | exact Below.refl _ _ | refine Below.drew ?_ | refine Below.alloc ?_ (by first | omega | (simp; done) | (simp; omega)) _ | refine Below.setCell ?_ (by first | omega | (simp; done) | (simp; omega)) _ | refine Below.trans ?_ (Below.mono (by assumption) (by first | omega | (simp; done) | (simp; omega)))))
      rw [H.out]
def badI : List Int → Nat → Int
  | [], _ => -1
  | x :: r, i => if keepBad x = true then (i : Int) else badI r (i + 1)
theorem badI_any : ∀ (l : List Int) (i : Nat), decide (0 ≤ badI l i) = l.any keepBad
  | [], _ => rfl
  | x :: r, i => by
    rw [badI, List.any_cons]
    cases h : keepBad x
    · rw [if_neg (by simp)]
      simpa using badI_any r (i + 1)
    · rw [if_pos rfl]
      simp
theorem badI_at (l : List Int) (k : Nat) (h : k < l.length) : badI (l.drop k) k = if keepBad l[k] = true then (k : Int) else badI (l.drop (k + 1)) (k + 1) := by
  rw [List.drop_eq_getElem_cons h]; rfl
set_option maxHeartbeats 1000000 in
theorem c_IndexFuncI (l : List Int) (A : Option Addr) (c : Nat) (w : World) (h : InI w A c l) :
    Calls Tryd.prog 57 #[.slice A l.length c, .func (.func 27) #[] #[]] w (RetV w (.int .i64 (badI l 0))) := by
  have hL := h.1
  have hC := h.2.1
  have hS := h.2.2.1
  go_enter Tryd.func57, Tryd.ntmps57
  go_wp2_with (fail)
  go_loopw [8] (fun i wr => ∃ k : Nat, k ≤ l.length ∧ i = .int .i64 k ∧ Hid (badI (l.drop k) k = badI l 0) ∧ Below w.heap.size w wr) (fun i _ => l.length - (intOf i).toNat)
  case atStart => exact ⟨0, by omega, rfl, rfl, Below.refl _ _⟩
  case round =>
    obtain ⟨k, hk, rfl, H, hbl⟩ := hrel
    have hbz := hbl.size
    by_cases hlt : k < l.length
    · obtain ⟨b, off, rfl, hb, hrow⟩ := h.at hlt
      have e0 : wr.cell? ⟨b, off + k, none⟩ = some (.int .i64 l[k]) := by have := (hrow.below hbl hb) k hlt 0 _ rfl; simpa using this
      have hf := H.out
      rw [badI_at l k hlt] at hf
      clear h H hrow
      obtain ⟨x, hx⟩ : ∃ x, x = l[k] := ⟨_, rfl⟩
      rw [← hx] at e0 hf
      clear hx
      cases hok : keepBad x
      · rw [if_neg (by rw [hok]; simp)] at hf
        have HF := lh hf
        have CC := lh (fun w' => show Calls Tryd.prog 27 #[.int .i64 x] w' (RetV w' (.bool false)) by have := c_script_Check2 x w'; rw [hok] at this; exact this)
        clear hf hok
        go_wp2_with (fail)
        refine (CC.out _).mono ?_
        rintro e w1 ⟨rfl, hb1⟩
        go_wp2_with (fail)
        go_roundw
        case rel => exact ⟨k + 1, by omega, by go_num, HF.out, (by repeat (first | exact Below.refl _ _ | refine Below.drew ?_ | refine Below.alloc ?_ (by first | omega | (simp; done) | (simp; omega)) _ | refine Below.setCell ?_ (by first | omega | (simp; done) | (simp; omega)) _ | refine Below.trans ?_ (Below.mono (by assumption) (by first | omega | (simp; done) | (simp; omega)))))⟩
        case measure => simp [intOf]; omega
      · rw [if_pos hok] at hf
        have HF := lh hf
        have CC := lh (fun w' => show Calls Tryd.prog 27 #[.int .i64 x] w' (RetV w' (.bool true)) by have := c_script_Check2 x w'; rw [hok] at this; exact this)
        clear hf hok
        go_wp2_with (fail)
        refine (CC.out _).mono ?_
        rintro e w1 ⟨rfl, hb1⟩
        go_wp2_with (fail)
        go_ret
        exact RetV.int HF.out (by repeat (first | exact Below.refl _ _ | refine Below.drew ?_ | refine Below.alloc ?_ (by first | omega | (simp; done) | (simp; omega)) _ | refine Below.setCell ?_ (by first | omega | (simp; done) | (simp; omega)) _ | refine Below.trans ?_ (Below.mono (by assumption) (by first | omega | (simp; done) | (simp; omega)))))
    · have hf := H.out
      rw [List.drop_of_length_le (by omega)] at hf
      have HF := lh hf
      clear hf H
      go_wp2_with (fail)
      go_ret
      exact RetV.int HF.out hbl
set_option maxHeartbeats 400000 in
theorem c_ContainsFuncI (l : List Int) (A : Option Addr) (c : Nat) (w : World) (h : InI w A c l) :
    Calls Tryd.prog 26 #[.slice A l.length c, .func (.func 27) #[] #[]] w (RetV w (.bool (l.any keepBad))) := by
  have H := lh (badI_any l 0)
  go_enter Tryd.func26, Tryd.ntmps26
  go_wp2_with (go_at_call 57; refine (c_IndexFuncI l A c _ h).mono ?_; rintro e w1 ⟨rfl, hb1⟩)
  go_ret
  exact RetV.bool H.out (by repeat (first | exact Below.refl _ _ | refine Below.drew ?_ | refine Below.alloc ?_ (by first | omega | (simp; done) | (simp; omega)) _ | refine Below.setCell ?_ (by first | omega | (simp; done) | (simp; omega)) _ | refine Below.trans ?_ (Below.mono (by assumption) (by first | omega | (simp; done) | (simp; omega)))))
open Go.RowKit

set_option maxHeartbeats 40000000 in
set_option maxRecDepth 10000 in
theorem script_put_N (b : List UInt8) (B : Option Addr) (cb : Nat) (o : Deed) (q : Where) (w : World) (hb : InB w B cb b) (hbl : b.length ≤ 800000) (hT : Tab w) (ho : o.fit) (hq : o.at_ w q) (hk : o.kind = 2 ∨ o.kind = 7 ∨ o.kind = 8 ∨ o.kind = 9 ∨ o.kind = 10) :
    Calls Tryd.prog 39 #[.slice B b.length cb, .agg (o.arr q)] w (RetS 1 bc 5 w (b ++ deedB o)) := by
  obtain ⟨FE, FN, FD, FF, FW, FK, FT⟩ : dE o.kind = false ∧ dN o.kind = true ∧ dD o.kind = false ∧ dF o.kind = false ∧ dW o.kind = false ∧ dK o.kind = false ∧ dT o.kind = false := by simp [dE, dN, dD, dF, dW, dK, dT]; omega
  have HK := lh (show deedB o = num o.kind ++ (num o.n) by unfold deedB deedT; rw [FE, FN, FD, FF, FW, FK, FT]; simp)
  have hn1 := (num_len o.n).2
  have hL := hb.1
  have hC := hb.2.1
  have HF := lh ho
  have HQ := lh hq
  have HB := lh hb
  have HT := lh hT
  have hn0 := (num_len o.kind).2
  have B0 := lh (At.new w 38 (o.arr q))
  have ps := dcs ho.wf B0.out.2
  clear hb hT ho hq hk
  go_enter Tryd.func39, Tryd.ntmps39
  go_wp2_with (fail)
  refine (c_octet_Num b B cb o.kind _ (HB.out.below B0.out.1)).mono ?_
  rintro e w1 ⟨v1, rfl, own1, hb1⟩
  obtain ⟨acc, hacc⟩ : ∃ l, l = b ++ num o.kind := ⟨_, rfl⟩
  rw [← hacc] at own1
  have han : acc.length ≤ b.length + 7 := by rw [hacc, List.length_append]; omega
  have HA := lh hacc
  obtain ⟨A1, c1, rfl, -⟩ := In.of_own bc_len own1 (by omega)
  have S := lh (show PT w w1 o q acc A1 c1 from ⟨B0.out.1.trans (hb1.mono B0.out.1.size), B0.out.2.below hb1 B0.out.2.lt, own_base own1 B0.out.1.size⟩)
  clear own1 hb1 hacc B0 ps
  have ps := dcs HF.out.wf S.out.o
  go_wp2_with (fail)
  refine (csh o.kind 1 _).mono ?_
  rintro e w1 ⟨rfl, hb1⟩
  rw [hasD_E o.kind, FE]
  replace S := lh (S.out.step hb1)
  clear hb1 ps
  have ps := dcs HF.out.wf S.out.o
  go_wp2_with (fail)
  refine (csh o.kind 2 _).mono ?_
  rintro e w1 ⟨rfl, hb1⟩
  rw [hasD_N o.kind, FN]
  replace S := lh (S.out.step hb1)
  clear hb1 ps
  have ps := dcs HF.out.wf S.out.o
  go_wp2_with (fail)
  refine (c_octet_Num acc A1 c1 o.n _ (S.out.inb (by omega))).mono ?_
  rintro e w2 ⟨v2, rfl, own2, hb2⟩
  obtain ⟨l2, hl2⟩ : ∃ l, l = acc ++ num o.n := ⟨_, rfl⟩
  rw [← hl2] at own2
  have hl2n : l2.length ≤ b.length + 14 := by rw [hl2, List.length_append]; omega
  replace HA := lh (hl2.trans (by rw [HA.out]))
  obtain ⟨A2, c2, rfl, -⟩ := In.of_own bc_len own2 (by omega)
  replace S := lh (S.out.put hb2 own2)
  clear hb2 own2 hl2 ps
  have ps := dcs HF.out.wf S.out.o
  go_wp2_with (fail)
  refine (csh o.kind 4 _).mono ?_
  rintro e w1 ⟨rfl, hb1⟩
  rw [hasD_D o.kind, FD]
  replace S := lh (S.out.step hb1)
  clear hb1 ps
  have ps := dcs HF.out.wf S.out.o
  go_wp2_with (fail)
  refine (csh o.kind 8 _).mono ?_
  rintro e w1 ⟨rfl, hb1⟩
  rw [hasD_F o.kind, FF]
  replace S := lh (S.out.step hb1)
  clear hb1 ps
  have ps := dcs HF.out.wf S.out.o
  go_wp2_with (fail)
  refine (csh o.kind 16 _).mono ?_
  rintro e w1 ⟨rfl, hb1⟩
  rw [hasD_W o.kind, FW]
  replace S := lh (S.out.step hb1)
  clear hb1 ps
  have ps := dcs HF.out.wf S.out.o
  go_wp2_with (fail)
  refine (csh o.kind 32 _).mono ?_
  rintro e w1 ⟨rfl, hb1⟩
  rw [hasD_K o.kind, FK]
  replace S := lh (S.out.step hb1)
  clear hb1 ps
  have ps := dcs HF.out.wf S.out.o
  go_wp2_with (fail)
  refine (csh o.kind 64 _).mono ?_
  rintro e w1 ⟨rfl, hb1⟩
  rw [hasD_T o.kind, FT]
  replace S := lh (S.out.step hb1)
  clear hb1 ps
  have ps := dcs HF.out.wf S.out.o
  go_wp2_with (fail)
  go_ret
  exact RetS.of S.out.own (Nat.le_refl _) (by rw [HA.out, HK.out]; simp) S.out.below
set_option maxHeartbeats 40000000 in
set_option maxRecDepth 10000 in
theorem script_put_D (b : List UInt8) (B : Option Addr) (cb : Nat) (o : Deed) (q : Where) (w : World) (hb : InB w B cb b) (hbl : b.length ≤ 800000) (hT : Tab w) (ho : o.fit) (hq : o.at_ w q) (hk : o.kind = 4 ∨ o.kind = 6) :
    Calls Tryd.prog 39 #[.slice B b.length cb, .agg (o.arr q)] w (RetS 1 bc 5 w (b ++ deedB o)) := by
  obtain ⟨FE, FN, FD, FF, FW, FK, FT⟩ : dE o.kind = false ∧ dN o.kind = false ∧ dD o.kind = true ∧ dF o.kind = false ∧ dW o.kind = false ∧ dK o.kind = false ∧ dT o.kind = false := by simp [dE, dN, dD, dF, dW, dK, dT]; omega
  have HK := lh (show deedB o = num o.kind ++ (num o.dev) by unfold deedB deedT; rw [FE, FN, FD, FF, FW, FK, FT]; simp)
  have hn1 := (num_len o.dev).2
  have hL := hb.1
  have hC := hb.2.1
  have HF := lh ho
  have HQ := lh hq
  have HB := lh hb
  have HT := lh hT
  have hn0 := (num_len o.kind).2
  have B0 := lh (At.new w 38 (o.arr q))
  have ps := dcs ho.wf B0.out.2
  clear hb hT ho hq hk
  go_enter Tryd.func39, Tryd.ntmps39
  go_wp2_with (fail)
  refine (c_octet_Num b B cb o.kind _ (HB.out.below B0.out.1)).mono ?_
  rintro e w1 ⟨v1, rfl, own1, hb1⟩
  obtain ⟨acc, hacc⟩ : ∃ l, l = b ++ num o.kind := ⟨_, rfl⟩
  rw [← hacc] at own1
  have han : acc.length ≤ b.length + 7 := by rw [hacc, List.length_append]; omega
  have HA := lh hacc
  obtain ⟨A1, c1, rfl, -⟩ := In.of_own bc_len own1 (by omega)
  have S := lh (show PT w w1 o q acc A1 c1 from ⟨B0.out.1.trans (hb1.mono B0.out.1.size), B0.out.2.below hb1 B0.out.2.lt, own_base own1 B0.out.1.size⟩)
  clear own1 hb1 hacc B0 ps
  have ps := dcs HF.out.wf S.out.o
  go_wp2_with (fail)
  refine (csh o.kind 1 _).mono ?_
  rintro e w1 ⟨rfl, hb1⟩
  rw [hasD_E o.kind, FE]
  replace S := lh (S.out.step hb1)
  clear hb1 ps
  have ps := dcs HF.out.wf S.out.o
  go_wp2_with (fail)
  refine (csh o.kind 2 _).mono ?_
  rintro e w1 ⟨rfl, hb1⟩
  rw [hasD_N o.kind, FN]
  replace S := lh (S.out.step hb1)
  clear hb1 ps
  have ps := dcs HF.out.wf S.out.o
  go_wp2_with (fail)
  refine (csh o.kind 4 _).mono ?_
  rintro e w1 ⟨rfl, hb1⟩
  rw [hasD_D o.kind, FD]
  replace S := lh (S.out.step hb1)
  clear hb1 ps
  have ps := dcs HF.out.wf S.out.o
  go_wp2_with (fail)
  refine (c_octet_Num acc A1 c1 o.dev _ (S.out.inb (by omega))).mono ?_
  rintro e w2 ⟨v2, rfl, own2, hb2⟩
  obtain ⟨l2, hl2⟩ : ∃ l, l = acc ++ num o.dev := ⟨_, rfl⟩
  rw [← hl2] at own2
  have hl2n : l2.length ≤ b.length + 14 := by rw [hl2, List.length_append]; omega
  replace HA := lh (hl2.trans (by rw [HA.out]))
  obtain ⟨A2, c2, rfl, -⟩ := In.of_own bc_len own2 (by omega)
  replace S := lh (S.out.put hb2 own2)
  clear hb2 own2 hl2 ps
  have ps := dcs HF.out.wf S.out.o
  go_wp2_with (fail)
  refine (csh o.kind 8 _).mono ?_
  rintro e w1 ⟨rfl, hb1⟩
  rw [hasD_F o.kind, FF]
  replace S := lh (S.out.step hb1)
  clear hb1 ps
  have ps := dcs HF.out.wf S.out.o
  go_wp2_with (fail)
  refine (csh o.kind 16 _).mono ?_
  rintro e w1 ⟨rfl, hb1⟩
  rw [hasD_W o.kind, FW]
  replace S := lh (S.out.step hb1)
  clear hb1 ps
  have ps := dcs HF.out.wf S.out.o
  go_wp2_with (fail)
  refine (csh o.kind 32 _).mono ?_
  rintro e w1 ⟨rfl, hb1⟩
  rw [hasD_K o.kind, FK]
  replace S := lh (S.out.step hb1)
  clear hb1 ps
  have ps := dcs HF.out.wf S.out.o
  go_wp2_with (fail)
  refine (csh o.kind 64 _).mono ?_
  rintro e w1 ⟨rfl, hb1⟩
  rw [hasD_T o.kind, FT]
  replace S := lh (S.out.step hb1)
  clear hb1 ps
  have ps := dcs HF.out.wf S.out.o
  go_wp2_with (fail)
  go_ret
  exact RetS.of S.out.own (Nat.le_refl _) (by rw [HA.out, HK.out]; simp) S.out.below
set_option maxHeartbeats 40000000 in
set_option maxRecDepth 10000 in
theorem script_put_Z (b : List UInt8) (B : Option Addr) (cb : Nat) (o : Deed) (q : Where) (w : World) (hb : InB w B cb b) (hbl : b.length ≤ 800000) (hT : Tab w) (ho : o.fit) (hq : o.at_ w q) (hk : ¬ (1 ≤ o.kind ∧ o.kind ≤ 12)) :
    Calls Tryd.prog 39 #[.slice B b.length cb, .agg (o.arr q)] w (RetS 1 bc 5 w (b ++ deedB o)) := by
  obtain ⟨FE, FN, FD, FF, FW, FK, FT⟩ : dE o.kind = false ∧ dN o.kind = false ∧ dD o.kind = false ∧ dF o.kind = false ∧ dW o.kind = false ∧ dK o.kind = false ∧ dT o.kind = false := by simp [dE, dN, dD, dF, dW, dK, dT]; omega
  have HK := lh (show deedB o = num o.kind ++ ([]) by unfold deedB deedT; rw [FE, FN, FD, FF, FW, FK, FT]; simp)
  have hL := hb.1
  have hC := hb.2.1
  have HF := lh ho
  have HQ := lh hq
  have HB := lh hb
  have HT := lh hT
  have hn0 := (num_len o.kind).2
  have B0 := lh (At.new w 38 (o.arr q))
  have ps := dcs ho.wf B0.out.2
  clear hb hT ho hq hk
  go_enter Tryd.func39, Tryd.ntmps39
  go_wp2_with (fail)
  refine (c_octet_Num b B cb o.kind _ (HB.out.below B0.out.1)).mono ?_
  rintro e w1 ⟨v1, rfl, own1, hb1⟩
  obtain ⟨acc, hacc⟩ : ∃ l, l = b ++ num o.kind := ⟨_, rfl⟩
  rw [← hacc] at own1
  have han : acc.length ≤ b.length + 7 := by rw [hacc, List.length_append]; omega
  have HA := lh hacc
  obtain ⟨A1, c1, rfl, -⟩ := In.of_own bc_len own1 (by omega)
  have S := lh (show PT w w1 o q acc A1 c1 from ⟨B0.out.1.trans (hb1.mono B0.out.1.size), B0.out.2.below hb1 B0.out.2.lt, own_base own1 B0.out.1.size⟩)
  clear own1 hb1 hacc B0 ps
  have ps := dcs HF.out.wf S.out.o
  go_wp2_with (fail)
  refine (csh o.kind 1 _).mono ?_
  rintro e w1 ⟨rfl, hb1⟩
  rw [hasD_E o.kind, FE]
  replace S := lh (S.out.step hb1)
  clear hb1 ps
  have ps := dcs HF.out.wf S.out.o
  go_wp2_with (fail)
  refine (csh o.kind 2 _).mono ?_
  rintro e w1 ⟨rfl, hb1⟩
  rw [hasD_N o.kind, FN]
  replace S := lh (S.out.step hb1)
  clear hb1 ps
  have ps := dcs HF.out.wf S.out.o
  go_wp2_with (fail)
  refine (csh o.kind 4 _).mono ?_
  rintro e w1 ⟨rfl, hb1⟩
  rw [hasD_D o.kind, FD]
  replace S := lh (S.out.step hb1)
  clear hb1 ps
  have ps := dcs HF.out.wf S.out.o
  go_wp2_with (fail)
  refine (csh o.kind 8 _).mono ?_
  rintro e w1 ⟨rfl, hb1⟩
  rw [hasD_F o.kind, FF]
  replace S := lh (S.out.step hb1)
  clear hb1 ps
  have ps := dcs HF.out.wf S.out.o
  go_wp2_with (fail)
  refine (csh o.kind 16 _).mono ?_
  rintro e w1 ⟨rfl, hb1⟩
  rw [hasD_W o.kind, FW]
  replace S := lh (S.out.step hb1)
  clear hb1 ps
  have ps := dcs HF.out.wf S.out.o
  go_wp2_with (fail)
  refine (csh o.kind 32 _).mono ?_
  rintro e w1 ⟨rfl, hb1⟩
  rw [hasD_K o.kind, FK]
  replace S := lh (S.out.step hb1)
  clear hb1 ps
  have ps := dcs HF.out.wf S.out.o
  go_wp2_with (fail)
  refine (csh o.kind 64 _).mono ?_
  rintro e w1 ⟨rfl, hb1⟩
  rw [hasD_T o.kind, FT]
  replace S := lh (S.out.step hb1)
  clear hb1 ps
  have ps := dcs HF.out.wf S.out.o
  go_wp2_with (fail)
  go_ret
  exact RetS.of S.out.own (Nat.le_refl _) (by rw [HA.out, HK.out]; simp) S.out.below
open Go.RowKit

set_option maxHeartbeats 40000000 in
set_option maxRecDepth 10000 in
theorem script_put_T (b : List UInt8) (B : Option Addr) (cb : Nat) (o : Deed) (q : Where) (w : World) (hb : InB w B cb b) (hbl : b.length ≤ 800000) (hT : Tab w) (ho : o.fit) (hq : o.at_ w q) (htx : o.text.length ≤ 10000) (hk : o.kind = 12) :
    Calls Tryd.prog 39 #[.slice B b.length cb, .agg (o.arr q)] w (RetS 1 bc 5 w (b ++ deedB o)) := by
  obtain ⟨FE, FN, FD, FF, FW, FK, FT⟩ : dE o.kind = false ∧ dN o.kind = false ∧ dD o.kind = false ∧ dF o.kind = false ∧ dW o.kind = false ∧ dK o.kind = false ∧ dT o.kind = true := by simp [dE, dN, dD, dF, dW, dK, dT]; omega
  have HK := lh (show deedB o = num o.kind ++ (strB o.text) by unfold deedB deedT; rw [FE, FN, FD, FF, FW, FK, FT]; simp)
  have htl : (strB o.text).length ≤ 10007 := by have := (num_len (o.text.length : Int)).2; unfold strB; rw [List.length_append]; omega
  have hL := hb.1
  have hC := hb.2.1
  have HF := lh ho
  have HQ := lh hq
  have HB := lh hb
  have HT := lh hT
  have hn0 := (num_len o.kind).2
  have B0 := lh (At.new w 38 (o.arr q))
  have ps := dcs ho.wf B0.out.2
  clear hb hT ho hq hk
  go_enter Tryd.func39, Tryd.ntmps39
  go_wp2_with (fail)
  refine (c_octet_Num b B cb o.kind _ (HB.out.below B0.out.1)).mono ?_
  rintro e w1 ⟨v1, rfl, own1, hb1⟩
  obtain ⟨acc, hacc⟩ : ∃ l, l = b ++ num o.kind := ⟨_, rfl⟩
  rw [← hacc] at own1
  have han : acc.length ≤ b.length + 7 := by rw [hacc, List.length_append]; omega
  have HA := lh hacc
  obtain ⟨A1, c1, rfl, -⟩ := In.of_own bc_len own1 (by omega)
  have S := lh (show PT w w1 o q acc A1 c1 from ⟨B0.out.1.trans (hb1.mono B0.out.1.size), B0.out.2.below hb1 B0.out.2.lt, own_base own1 B0.out.1.size⟩)
  clear own1 hb1 hacc B0 ps
  have ps := dcs HF.out.wf S.out.o
  go_wp2_with (fail)
  refine (csh o.kind 1 _).mono ?_
  rintro e w1 ⟨rfl, hb1⟩
  rw [hasD_E o.kind, FE]
  replace S := lh (S.out.step hb1)
  clear hb1 ps
  have ps := dcs HF.out.wf S.out.o
  go_wp2_with (fail)
  refine (csh o.kind 2 _).mono ?_
  rintro e w1 ⟨rfl, hb1⟩
  rw [hasD_N o.kind, FN]
  replace S := lh (S.out.step hb1)
  clear hb1 ps
  have ps := dcs HF.out.wf S.out.o
  go_wp2_with (fail)
  refine (csh o.kind 4 _).mono ?_
  rintro e w1 ⟨rfl, hb1⟩
  rw [hasD_D o.kind, FD]
  replace S := lh (S.out.step hb1)
  clear hb1 ps
  have ps := dcs HF.out.wf S.out.o
  go_wp2_with (fail)
  refine (csh o.kind 8 _).mono ?_
  rintro e w1 ⟨rfl, hb1⟩
  rw [hasD_F o.kind, FF]
  replace S := lh (S.out.step hb1)
  clear hb1 ps
  have ps := dcs HF.out.wf S.out.o
  go_wp2_with (fail)
  refine (csh o.kind 16 _).mono ?_
  rintro e w1 ⟨rfl, hb1⟩
  rw [hasD_W o.kind, FW]
  replace S := lh (S.out.step hb1)
  clear hb1 ps
  have ps := dcs HF.out.wf S.out.o
  go_wp2_with (fail)
  refine (csh o.kind 32 _).mono ?_
  rintro e w1 ⟨rfl, hb1⟩
  rw [hasD_K o.kind, FK]
  replace S := lh (S.out.step hb1)
  clear hb1 ps
  have ps := dcs HF.out.wf S.out.o
  go_wp2_with (fail)
  refine (csh o.kind 64 _).mono ?_
  rintro e w1 ⟨rfl, hb1⟩
  rw [hasD_T o.kind, FT]
  replace S := lh (S.out.step hb1)
  clear hb1 ps
  have ps := dcs HF.out.wf S.out.o
  go_wp2_with (fail)
  refine (c_octet_Str acc A1 c1 o.text _ (S.out.inb (by omega)) HF.out.t).mono ?_
  rintro e w2 ⟨v2, rfl, own2, hb2⟩
  obtain ⟨l2, hl2⟩ : ∃ l, l = acc ++ strB o.text := ⟨_, rfl⟩
  rw [← hl2] at own2
  have hl2n : l2.length ≤ b.length + 10014 := by rw [hl2, List.length_append]; omega
  replace HA := lh (hl2.trans (by rw [HA.out]))
  obtain ⟨A2, c2, rfl, -⟩ := In.of_own bc_len own2 (by omega)
  replace S := lh (S.out.put hb2 own2)
  clear hb2 own2 hl2 ps
  have ps := dcs HF.out.wf S.out.o
  go_wp2_with (fail)
  go_ret
  exact RetS.of S.out.own (Nat.le_refl _) (by rw [HA.out, HK.out]; simp) S.out.below
set_option maxHeartbeats 40000000 in
set_option maxRecDepth 10000 in
theorem script_put_E (b : List UInt8) (B : Option Addr) (cb : Nat) (o : Deed) (q : Where) (w : World) (hb : InB w B cb b) (hbl : b.length ≤ 800000) (hT : Tab w) (ho : o.fit) (hq : o.at_ w q) (hk : o.kind = 1) :
    Calls Tryd.prog 39 #[.slice B b.length cb, .agg (o.arr q)] w (RetS 1 bc 5 w (b ++ deedB o)) := by
  obtain ⟨FE, FN, FD, FF, FW, FK, FT⟩ : dE o.kind = true ∧ dN o.kind = false ∧ dD o.kind = false ∧ dF o.kind = false ∧ dW o.kind = false ∧ dK o.kind = false ∧ dT o.kind = false := by simp [dE, dN, dD, dF, dW, dK, dT]; omega
  have HK := lh (show deedB o = num o.kind ++ (editB o.e) by unfold deedB deedT; rw [FE, FN, FD, FF, FW, FK, FT]; simp)
  have hel := editB_len' o.e
  have hL := hb.1
  have hC := hb.2.1
  have HF := lh ho
  have HQ := lh hq
  have HB := lh hb
  have HT := lh hT
  have hn0 := (num_len o.kind).2
  have B0 := lh (At.new w 38 (o.arr q))
  have ps := dcs ho.wf B0.out.2
  clear hb hT ho hq hk
  go_enter Tryd.func39, Tryd.ntmps39
  go_wp2_with (fail)
  refine (c_octet_Num b B cb o.kind _ (HB.out.below B0.out.1)).mono ?_
  rintro e w1 ⟨v1, rfl, own1, hb1⟩
  obtain ⟨acc, hacc⟩ : ∃ l, l = b ++ num o.kind := ⟨_, rfl⟩
  rw [← hacc] at own1
  have han : acc.length ≤ b.length + 7 := by rw [hacc, List.length_append]; omega
  have HA := lh hacc
  obtain ⟨A1, c1, rfl, -⟩ := In.of_own bc_len own1 (by omega)
  have S := lh (show PT w w1 o q acc A1 c1 from ⟨B0.out.1.trans (hb1.mono B0.out.1.size), B0.out.2.below hb1 B0.out.2.lt, own_base own1 B0.out.1.size⟩)
  clear own1 hb1 hacc B0 ps
  have ps := dcs HF.out.wf S.out.o
  go_wp2_with (fail)
  refine (csh o.kind 1 _).mono ?_
  rintro e w1 ⟨rfl, hb1⟩
  rw [hasD_E o.kind, FE]
  replace S := lh (S.out.step hb1)
  clear hb1 ps
  have ps := dcs HF.out.wf S.out.o
  go_wp2_with (with_reducible refine slG 30 (.tmp 15) rfl ?_)
  refine Stop.mk (wlG (by rfl) _ _ rfl w.heap.size 4 rfl o.e.arr (deed_edit HF.out.wf S.out.o) strE (by rw [Edit.arr_size, HF.out.wf.e]) ?_)
  go_wp2_with (fail)
  refine (c_edit_Put acc A1 c1 o.e _ (S.out.inb (by omega)) (by omega) (HT.out.below S.out.below) HF.out.wf.e HF.out.es HF.out.em).mono ?_
  rintro e w2 ⟨v2, rfl, own2, hb2⟩
  obtain ⟨l2, hl2⟩ : ∃ l, l = acc ++ editB o.e := ⟨_, rfl⟩
  rw [← hl2] at own2
  have hl2n : l2.length ≤ b.length + 400 := by rw [hl2, List.length_append]; omega
  replace HA := lh (hl2.trans (by rw [HA.out]))
  obtain ⟨A2, c2, rfl, -⟩ := In.of_own bc_len own2 (by omega)
  replace S := lh (S.out.put hb2 own2)
  clear hb2 own2 hl2 ps
  have ps := dcs HF.out.wf S.out.o
  go_wp2_with (fail)
  refine (csh o.kind 2 _).mono ?_
  rintro e w1 ⟨rfl, hb1⟩
  rw [hasD_N o.kind, FN]
  replace S := lh (S.out.step hb1)
  clear hb1 ps
  have ps := dcs HF.out.wf S.out.o
  go_wp2_with (fail)
  refine (csh o.kind 4 _).mono ?_
  rintro e w1 ⟨rfl, hb1⟩
  rw [hasD_D o.kind, FD]
  replace S := lh (S.out.step hb1)
  clear hb1 ps
  have ps := dcs HF.out.wf S.out.o
  go_wp2_with (fail)
  refine (csh o.kind 8 _).mono ?_
  rintro e w1 ⟨rfl, hb1⟩
  rw [hasD_F o.kind, FF]
  replace S := lh (S.out.step hb1)
  clear hb1 ps
  have ps := dcs HF.out.wf S.out.o
  go_wp2_with (fail)
  refine (csh o.kind 16 _).mono ?_
  rintro e w1 ⟨rfl, hb1⟩
  rw [hasD_W o.kind, FW]
  replace S := lh (S.out.step hb1)
  clear hb1 ps
  have ps := dcs HF.out.wf S.out.o
  go_wp2_with (fail)
  refine (csh o.kind 32 _).mono ?_
  rintro e w1 ⟨rfl, hb1⟩
  rw [hasD_K o.kind, FK]
  replace S := lh (S.out.step hb1)
  clear hb1 ps
  have ps := dcs HF.out.wf S.out.o
  go_wp2_with (fail)
  refine (csh o.kind 64 _).mono ?_
  rintro e w1 ⟨rfl, hb1⟩
  rw [hasD_T o.kind, FT]
  replace S := lh (S.out.step hb1)
  clear hb1 ps
  have ps := dcs HF.out.wf S.out.o
  go_wp2_with (fail)
  go_ret
  exact RetS.of S.out.own (Nat.le_refl _) (by rw [HA.out, HK.out]; simp) S.out.below
open Go.RowKit

set_option maxHeartbeats 40000000 in
set_option maxRecDepth 10000 in
theorem script_put_F (b : List UInt8) (B : Option Addr) (cb : Nat) (o : Deed) (q : Where) (w : World) (hb : InB w B cb b) (hbl : b.length ≤ 800000) (hT : Tab w) (ho : o.fit) (hq : o.at_ w q) (hk : o.kind = 3) :
    Calls Tryd.prog 39 #[.slice B b.length cb, .agg (o.arr q)] w (RetS 1 bc 5 w (b ++ deedB o)) := by
  obtain ⟨FE, FN, FD, FF, FW, FK, FT⟩ : dE o.kind = false ∧ dN o.kind = false ∧ dD o.kind = true ∧ dF o.kind = true ∧ dW o.kind = false ∧ dK o.kind = false ∧ dT o.kind = false := by simp [dE, dN, dD, dF, dW, dK, dT]; omega
  have HK := lh (show deedB o = num o.kind ++ (num o.dev ++ (putB o.f ++ num (o.mask : Int))) by unfold deedB deedT; rw [FE, FN, FD, FF, FW, FK, FT]; simp)
  have hn1 := (num_len o.dev).2
  have hn2 := (num_len (o.mask : Int)).2
  have hnf := putB_len o.f
  have hmm := ho.m
  have hL := hb.1
  have hC := hb.2.1
  have HF := lh ho
  have HQ := lh hq
  have HB := lh hb
  have HT := lh hT
  have hn0 := (num_len o.kind).2
  have B0 := lh (At.new w 38 (o.arr q))
  have ps := dcs ho.wf B0.out.2
  clear hb hT ho hq hk
  go_enter Tryd.func39, Tryd.ntmps39
  go_wp2_with (fail)
  refine (c_octet_Num b B cb o.kind _ (HB.out.below B0.out.1)).mono ?_
  rintro e w1 ⟨v1, rfl, own1, hb1⟩
  obtain ⟨acc, hacc⟩ : ∃ l, l = b ++ num o.kind := ⟨_, rfl⟩
  rw [← hacc] at own1
  have han : acc.length ≤ b.length + 7 := by rw [hacc, List.length_append]; omega
  have HA := lh hacc
  obtain ⟨A1, c1, rfl, -⟩ := In.of_own bc_len own1 (by omega)
  have S := lh (show PT w w1 o q acc A1 c1 from ⟨B0.out.1.trans (hb1.mono B0.out.1.size), B0.out.2.below hb1 B0.out.2.lt, own_base own1 B0.out.1.size⟩)
  clear own1 hb1 hacc B0 ps
  have ps := dcs HF.out.wf S.out.o
  go_wp2_with (fail)
  refine (csh o.kind 1 _).mono ?_
  rintro e w1 ⟨rfl, hb1⟩
  rw [hasD_E o.kind, FE]
  replace S := lh (S.out.step hb1)
  clear hb1 ps
  have ps := dcs HF.out.wf S.out.o
  go_wp2_with (fail)
  refine (csh o.kind 2 _).mono ?_
  rintro e w1 ⟨rfl, hb1⟩
  rw [hasD_N o.kind, FN]
  replace S := lh (S.out.step hb1)
  clear hb1 ps
  have ps := dcs HF.out.wf S.out.o
  go_wp2_with (fail)
  refine (csh o.kind 4 _).mono ?_
  rintro e w1 ⟨rfl, hb1⟩
  rw [hasD_D o.kind, FD]
  replace S := lh (S.out.step hb1)
  clear hb1 ps
  have ps := dcs HF.out.wf S.out.o
  go_wp2_with (fail)
  refine (c_octet_Num acc A1 c1 o.dev _ (S.out.inb (by omega))).mono ?_
  rintro e w2 ⟨v2, rfl, own2, hb2⟩
  obtain ⟨l2, hl2⟩ : ∃ l, l = acc ++ num o.dev := ⟨_, rfl⟩
  rw [← hl2] at own2
  have hl2n : l2.length ≤ b.length + 14 := by rw [hl2, List.length_append]; omega
  replace HA := lh (hl2.trans (by rw [HA.out]))
  obtain ⟨A2, c2, rfl, -⟩ := In.of_own bc_len own2 (by omega)
  replace S := lh (S.out.put hb2 own2)
  clear hb2 own2 hl2 ps
  have ps := dcs HF.out.wf S.out.o
  go_wp2_with (fail)
  refine (csh o.kind 8 _).mono ?_
  rintro e w1 ⟨rfl, hb1⟩
  rw [hasD_F o.kind, FF]
  replace S := lh (S.out.step hb1)
  clear hb1 ps
  have ps := dcs HF.out.wf S.out.o
  go_wp2_with (fail)
  obtain ⟨l3, hl3⟩ : ∃ l, l = l2 ++ putB o.f := ⟨_, rfl⟩
  obtain ⟨l4, hl4⟩ : ∃ l, l = l3 ++ num (o.mask : Int) := ⟨_, rfl⟩
  have hl3n : l3.length ≤ b.length + 2000 := by rw [hl3, List.length_append]; omega
  have hl4n : l4.length ≤ b.length + 4000 := by rw [hl4, List.length_append]; omega
  have L2 := lh hl3
  have L3 := lh hl4
  have hbw := S.out.below.size
  replace HA := lh (hl4.trans (by rw [hl3, HA.out]))
  clear hl3 hl4 ps
  refine wp_region_rel [Sp.own w.heap.size 5 1 bc l2, Sp.eq (.pointer (some ⟨w.heap.size, 33, none⟩)), Sp.eq (.slice q.A o.f.length q.n), Sp.own w.heap.size 5 1 bc l3, Sp.eq (.pointer (some ⟨w.heap.size, 34, none⟩)), Sp.eq (.int .u32 o.mask), Sp.eq (.int .i64 o.mask), Sp.own w.heap.size 5 1 bc l4, Sp.own w.heap.size 5 1 bc l4] 80 (by kernel_rfl) (by kernel_rfl) rfl rfl ?_ ?_
  · refine ⟨?_, ?_, ?_, ?_, ?_, ?_, ?_, ?_, ?_, trivial⟩
    all_goals (intro u w2 hb2 hd; simp [Deps, Region.binds, Sp.own_holds, Sp.eq_holds] at hd; simp only [putDeps, dstOf, Region.binds])
    case refine_1 =>
      go_wp2_with (fail); exact RelEnd.mk rfl (Below.refl _ _) (own_below S.out.own hb2)
    case refine_2 | refine_5 | refine_7 =>
      go_wp2_with (fail); exact RelEnd.mk rfl (Below.refl _ _) rfl
    case refine_3 =>
      have qq := (S.out.o.below hb2 S.out.o.lt).cell (Deed.getF HF.out.wf 0 (by omega))
      go_wp2_with (fail); exact RelEnd.mk rfl (Below.refl _ _) rfl
    case refine_4 =>
      have hx := hd.1
      obtain ⟨A4, c4, e4, in4⟩ := In.of_own bc_len hx (by omega)
      go_wp2_with (go_at_call 73; refine (c_predwire_Put l2 A4 c4 o.f q.A q.n _ in4 ((HQ.out.below S.out.below).f.below hb2) (by omega) HF.out.fs).mono ?_; rintro e w3 ⟨v3, rfl, own3, hb3⟩)
      rw [← L2.out] at own3
      exact RelEnd.mk rfl hb3 (own_base own3 (Nat.le_trans hbw hb2.size))
    case refine_6 =>
      have qq := (S.out.o.below hb2 S.out.o.lt).cell (Deed.getF HF.out.wf 1 (by omega))
      go_wp2_with (fail); exact RelEnd.mk rfl (Below.refl _ _) rfl
    case refine_8 =>
      have hx := hd.1
      obtain ⟨A4, c4, e4, in4⟩ := In.of_own bc_len hx (by omega)
      go_wp2_with (go_at_call 38; refine (c_octet_Num l3 A4 c4 _ _ in4).mono ?_; rintro e w3 ⟨v3, rfl, own3, hb3⟩)
      rw [← L3.out] at own3
      exact RelEnd.mk rfl hb3 (own_base own3 (Nat.le_trans hbw hb2.size))
    case refine_9 =>
      go_wp2_with (fail); exact RelEnd.mk rfl (Below.refl _ _) hd.1
  · intro u w2 hb2 hold
    simp only [RelHold, Sp.eq_holds, Sp.own_holds] at hold
    obtain ⟨-, -, -, -, -, -, -, -, hE, -⟩ := hold
    simp only [putAll, Act.put, Nat.reduceAdd, List.setIfInBounds_toArray, List.set_cons_zero, List.set_cons_succ]
    obtain ⟨A5, c5, e5, -⟩ := In.of_own bc_len hE (by omega)
    have OE := hE
    rw [e5] at OE ⊢
    replace S := lh (show PT w w2 o q l4 A5 c5 from ⟨S.out.below.trans (hb2.mono S.out.below.size), S.out.o.below hb2 S.out.o.lt, OE⟩)
    clear hE e5 OE hb2
    have ps := dcs HF.out.wf S.out.o
    go_wp2_with (fail)
    refine (csh o.kind 16 _).mono ?_
    rintro e w1 ⟨rfl, hb1⟩
    rw [hasD_W o.kind, FW]
    replace S := lh (S.out.step hb1)
    clear hb1 ps
    have ps := dcs HF.out.wf S.out.o
    go_wp2_with (fail)
    refine (csh o.kind 32 _).mono ?_
    rintro e w1 ⟨rfl, hb1⟩
    rw [hasD_K o.kind, FK]
    replace S := lh (S.out.step hb1)
    clear hb1 ps
    have ps := dcs HF.out.wf S.out.o
    go_wp2_with (fail)
    refine (csh o.kind 64 _).mono ?_
    rintro e w1 ⟨rfl, hb1⟩
    rw [hasD_T o.kind, FT]
    replace S := lh (S.out.step hb1)
    clear hb1 ps
    have ps := dcs HF.out.wf S.out.o
    go_wp2_with (fail)
    go_ret
    exact RetS.of S.out.own (Nat.le_refl _) (by rw [HA.out, HK.out]; simp) S.out.below
open Go.RowKit

set_option maxHeartbeats 40000000 in
set_option maxRecDepth 10000 in
theorem script_put_W (b : List UInt8) (B : Option Addr) (cb : Nat) (o : Deed) (q : Where) (w : World) (hb : InB w B cb b) (hbl : b.length ≤ 800000) (hT : Tab w) (ho : o.fit) (hq : o.at_ w q) (hk : o.kind = 5) :
    Calls Tryd.prog 39 #[.slice B b.length cb, .agg (o.arr q)] w (RetS 1 bc 5 w (b ++ deedB o)) := by
  obtain ⟨FE, FN, FD, FF, FW, FK, FT⟩ : dE o.kind = false ∧ dN o.kind = false ∧ dD o.kind = true ∧ dF o.kind = false ∧ dW o.kind = true ∧ dK o.kind = false ∧ dT o.kind = false := by simp [dE, dN, dD, dF, dW, dK, dT]; omega
  have HK := lh (show deedB o = num o.kind ++ (num o.dev ++ (num o.id ++ patchB o.p)) by unfold deedB deedT; rw [FE, FN, FD, FF, FW, FK, FT]; simp)
  have hn1 := (num_len o.dev).2
  have hn2 := (num_len o.id).2
  have hnf := patchB_len o.p
  have hL := hb.1
  have hC := hb.2.1
  have HF := lh ho
  have HQ := lh hq
  have HB := lh hb
  have HT := lh hT
  have hn0 := (num_len o.kind).2
  have B0 := lh (At.new w 38 (o.arr q))
  have ps := dcs ho.wf B0.out.2
  clear hb hT ho hq hk
  go_enter Tryd.func39, Tryd.ntmps39
  go_wp2_with (fail)
  refine (c_octet_Num b B cb o.kind _ (HB.out.below B0.out.1)).mono ?_
  rintro e w1 ⟨v1, rfl, own1, hb1⟩
  obtain ⟨acc, hacc⟩ : ∃ l, l = b ++ num o.kind := ⟨_, rfl⟩
  rw [← hacc] at own1
  have han : acc.length ≤ b.length + 7 := by rw [hacc, List.length_append]; omega
  have HA := lh hacc
  obtain ⟨A1, c1, rfl, -⟩ := In.of_own bc_len own1 (by omega)
  have S := lh (show PT w w1 o q acc A1 c1 from ⟨B0.out.1.trans (hb1.mono B0.out.1.size), B0.out.2.below hb1 B0.out.2.lt, own_base own1 B0.out.1.size⟩)
  clear own1 hb1 hacc B0 ps
  have ps := dcs HF.out.wf S.out.o
  go_wp2_with (fail)
  refine (csh o.kind 1 _).mono ?_
  rintro e w1 ⟨rfl, hb1⟩
  rw [hasD_E o.kind, FE]
  replace S := lh (S.out.step hb1)
  clear hb1 ps
  have ps := dcs HF.out.wf S.out.o
  go_wp2_with (fail)
  refine (csh o.kind 2 _).mono ?_
  rintro e w1 ⟨rfl, hb1⟩
  rw [hasD_N o.kind, FN]
  replace S := lh (S.out.step hb1)
  clear hb1 ps
  have ps := dcs HF.out.wf S.out.o
  go_wp2_with (fail)
  refine (csh o.kind 4 _).mono ?_
  rintro e w1 ⟨rfl, hb1⟩
  rw [hasD_D o.kind, FD]
  replace S := lh (S.out.step hb1)
  clear hb1 ps
  have ps := dcs HF.out.wf S.out.o
  go_wp2_with (fail)
  refine (c_octet_Num acc A1 c1 o.dev _ (S.out.inb (by omega))).mono ?_
  rintro e w2 ⟨v2, rfl, own2, hb2⟩
  obtain ⟨l2, hl2⟩ : ∃ l, l = acc ++ num o.dev := ⟨_, rfl⟩
  rw [← hl2] at own2
  have hl2n : l2.length ≤ b.length + 14 := by rw [hl2, List.length_append]; omega
  replace HA := lh (hl2.trans (by rw [HA.out]))
  obtain ⟨A2, c2, rfl, -⟩ := In.of_own bc_len own2 (by omega)
  replace S := lh (S.out.put hb2 own2)
  clear hb2 own2 hl2 ps
  have ps := dcs HF.out.wf S.out.o
  go_wp2_with (fail)
  refine (csh o.kind 8 _).mono ?_
  rintro e w1 ⟨rfl, hb1⟩
  rw [hasD_F o.kind, FF]
  replace S := lh (S.out.step hb1)
  clear hb1 ps
  have ps := dcs HF.out.wf S.out.o
  go_wp2_with (fail)
  refine (csh o.kind 16 _).mono ?_
  rintro e w1 ⟨rfl, hb1⟩
  rw [hasD_W o.kind, FW]
  replace S := lh (S.out.step hb1)
  clear hb1 ps
  have ps := dcs HF.out.wf S.out.o
  go_wp2_with (fail)
  obtain ⟨l3, hl3⟩ : ∃ l, l = l2 ++ num o.id := ⟨_, rfl⟩
  obtain ⟨l4, hl4⟩ : ∃ l, l = l3 ++ patchB o.p := ⟨_, rfl⟩
  have hl3n : l3.length ≤ b.length + 2000 := by rw [hl3, List.length_append]; omega
  have hl4n : l4.length ≤ b.length + 4000 := by rw [hl4, List.length_append]; omega
  have L2 := lh hl3
  have L3 := lh hl4
  have hbw := S.out.below.size
  replace HA := lh (hl4.trans (by rw [hl3, HA.out]))
  clear hl3 hl4 ps
  refine wp_region_rel [Sp.own w.heap.size 5 1 bc l2, Sp.eq (.pointer (some ⟨w.heap.size, 3, none⟩)), Sp.eq (.int .i64 o.id), Sp.own w.heap.size 5 1 bc l3, Sp.eq (.pointer (some ⟨w.heap.size, 35, none⟩)), Sp.eq (.agg o.p.arr), Sp.own w.heap.size 5 1 bc l4, Sp.own w.heap.size 5 1 bc l4] 80 (by kernel_rfl) (by kernel_rfl) rfl rfl ?_ ?_
  · refine ⟨?_, ?_, ?_, ?_, ?_, ?_, ?_, ?_, trivial⟩
    all_goals (intro u w2 hb2 hd; simp [Deps, Region.binds, Sp.own_holds, Sp.eq_holds] at hd; simp only [putDeps, dstOf, Region.binds])
    case refine_1 =>
      go_wp2_with (fail); exact RelEnd.mk rfl (Below.refl _ _) (own_below S.out.own hb2)
    case refine_2 | refine_5 =>
      go_wp2_with (fail); exact RelEnd.mk rfl (Below.refl _ _) rfl
    case refine_3 =>
      have qq := (S.out.o.below hb2 S.out.o.lt).cell (Deed.getI 3 (by omega))
      go_wp2_with (fail); exact RelEnd.mk rfl (Below.refl _ _) rfl
    case refine_4 =>
      have hx := hd.1
      obtain ⟨A4, c4, e4, in4⟩ := In.of_own bc_len hx (by omega)
      go_wp2_with (go_at_call 38; refine (c_octet_Num l2 A4 c4 _ _ in4).mono ?_; rintro e w3 ⟨v3, rfl, own3, hb3⟩)
      rw [← L2.out] at own3
      exact RelEnd.mk rfl hb3 (own_base own3 (Nat.le_trans hbw hb2.size))
    case refine_6 =>
      go_wp2_with (with_reducible refine slG 28 _ rfl ?_)
      refine Stop.mk (wlG (by simp [Region.wanted]) _ _ rfl w.heap.size 35 rfl o.p.arr (deed_patch HF.out.wf (S.out.o.below hb2 S.out.o.lt)) strP (by rw [Patch.arr_size, HF.out.wf.p]) ?_)
      go_wp2_with (fail)
      exact RelEnd.mk rfl (Below.refl _ _) rfl
    case refine_7 =>
      have hx := hd.1
      obtain ⟨A4, c4, e4, in4⟩ := In.of_own bc_len hx (by omega)
      go_wp2_with (go_at_call 74; refine (c_cardwire_PutPatch l3 A4 c4 o.p _ in4 (by omega) ((HT.out.below S.out.below).below hb2) HF.out.pm HF.out.wf.p HF.out.ps).mono ?_; rintro e w3 ⟨v3, rfl, own3, hb3⟩)
      rw [← L3.out] at own3
      exact RelEnd.mk rfl hb3 (own_base own3 (Nat.le_trans hbw hb2.size))
    case refine_8 =>
      go_wp2_with (fail); exact RelEnd.mk rfl (Below.refl _ _) hd.1
  · intro u w2 hb2 hold
    simp only [RelHold, Sp.eq_holds, Sp.own_holds] at hold
    obtain ⟨-, -, -, -, -, -, -, hE, -⟩ := hold
    simp only [putAll, Act.put, Nat.reduceAdd, List.setIfInBounds_toArray, List.set_cons_zero, List.set_cons_succ]
    obtain ⟨A5, c5, e5, -⟩ := In.of_own bc_len hE (by omega)
    have OE := hE
    rw [e5] at OE ⊢
    replace S := lh (show PT w w2 o q l4 A5 c5 from ⟨S.out.below.trans (hb2.mono S.out.below.size), S.out.o.below hb2 S.out.o.lt, OE⟩)
    clear hE e5 OE hb2
    have ps := dcs HF.out.wf S.out.o
    go_wp2_with (fail)
    refine (csh o.kind 32 _).mono ?_
    rintro e w1 ⟨rfl, hb1⟩
    rw [hasD_K o.kind, FK]
    replace S := lh (S.out.step hb1)
    clear hb1 ps
    have ps := dcs HF.out.wf S.out.o
    go_wp2_with (fail)
    refine (csh o.kind 64 _).mono ?_
    rintro e w1 ⟨rfl, hb1⟩
    rw [hasD_T o.kind, FT]
    replace S := lh (S.out.step hb1)
    clear hb1 ps
    have ps := dcs HF.out.wf S.out.o
    go_wp2_with (fail)
    go_ret
    exact RetS.of S.out.own (Nat.le_refl _) (by rw [HA.out, HK.out]; simp) S.out.below
end Go.Proofs.YtiedkcijjfmhaaaDoor
