/-
  Lemmas (walks and plain laws), in one text.
-/
import Derived.Test.YtiedkcijjfmhaaaGreatDoorSr2
import Derived.Test.YtiedkcijjfmhaaaGreatDoorSr3
import Derived.Test.YtiedkcijjfmhaaaGreatDoorSr7
import Derived.Test.YtiedkcijjfmhaaaGreatDoorSr8
import Derived.Test.YtiedkcijjfmhaaaGreatDoorSr14
import Derived.Test.YtiedkcijjfmhaaaGreatDoorSr18
namespace Go.Proofs.YtiedkcijjfmhaaaGreatDoor
open Go.RowKit

theorem strOp : Str Tryz.prog 45 63 := ⟨⟨_, Tryz.underlying45, rfl⟩, by kernel_rfl⟩
theorem dz_arr (k : Int) : Deed.arr { dz with kind := k } wz = #[.int .i64 k, .int .i64 0, .int .i64 0, .int .i64 0, .int .i64 0, .int .i64 0, .int .i64 0, .int .u32 0, .int .u32 0, .int .i64 0, .int .i64 0, .string (str []), .int .i64 0, .int .i64 0, .string (str []), .int .i64 0, .int .i64 0, .string (str []), .int .i64 0, .int .i64 0, .string (str []), .int .i64 0, .int .i64 0, .string (str []), .int .i64 0, .int .i64 0, .string (str []), .int .i64 0, .int .i64 0, .string (str []), .int .i64 0, .int .i64 0, .string (str []), .slice none 0 0, .int .u32 0, .int .u32 0, .int .u32 0, .int .i64 0, .int .i64 0, .string (str []), .int .i64 0, .int .i64 0, .string (str []), .int .i64 0, .int .i64 0, .string (str []), .int .i64 0, .int .i64 0, .string (str []), .int .i64 0, .int .i64 0, .string (str []), .int .i64 0, .int .i64 0, .string (str []), .int .i64 0, .int .i64 0, .string (str []), .int .i64 0, .int .i64 0, .string (str []), .slice none 0 0, .string (str [])] := by unfold Deed.arr Edit.arr Patch.arr; rfl
/-- The closure's end. -/
def RetAlso (g : Nat) (k : Bool) (w : World) (e : Ending) (w' : World) : Prop := e = .returned (.tuple #[]) ∧ Blk w' g #[.bool k] ∧ Kept (some g) w.heap.size w w'
set_option maxHeartbeats 400000 in
theorem c_script_Check1 (b k : Bool) (g : Nat) (w : World) (h : Blk w g #[.bool k]) : Calls Tryz.prog 41 #[.bool b, .pointer (some ⟨g, 0, none⟩)] w (RetAlso g (k && b) w) := by
  have q := h.cell (show #[Value.bool k][0]? = some (.bool k) from rfl)
  have ff := h.frozen 0
  have hlt := h.lt
  have H := Lib.hid h
  clear h
  cases k
  all_goals
    go_enter Tryz.func41, Tryz.ntmps41
    go_wp2_with (fail)
    go_end0
    refine ⟨rfl, ?_, kept_set _ _ _ _⟩
    first | exact H.out.store 0 _ | (have := H.out.store 0 (.bool b); simpa using this)
/-- The state of Check: the act, the one that is made, and the truth. -/
structure SC (w w' : World) (o r : Deed) (q s : Where) (g h : Nat) (k : Bool) : Prop where
  below : Below w.heap.size w w'
  o : Blk w' w.heap.size (o.arr q)
  r : Blk w' g (r.arr s)
  k : Blk w' h #[.bool k]
  hg : w.heap.size < g
  hh : w.heap.size < h
  gh : g ≠ h
section
variable {w w1 w2 : World} {o r r' : Deed} {q s s' : Where} {g h : Nat} {k k' : Bool}
theorem SC.step (c : SC w w1 o r q s g h k) (hb : Below w1.heap.size w1 w2) : SC w w2 o r q s g h k := ⟨c.below.trans (hb.mono c.below.size), c.o.below hb c.o.lt, c.r.below hb c.r.lt, c.k.below hb c.k.lt, c.hg, c.hh, c.gh⟩
theorem SC.put (c : SC w w1 o r q s g h k) (hk : Kept (some g) w1.heap.size w1 w2) (hb : Blk w2 g (r'.arr s')) : SC w w2 o r' q s' g h k :=
  ⟨c.below.trans (hk.oneB c.below.size (by have := c.hg; omega)), c.o.kept hk c.o.lt (fun e => by injection e with e; have := c.hg; omega), hb, c.k.kept hk c.k.lt (fun e => by injection e with e; exact c.gh e), c.hg, c.hh, c.gh⟩
theorem SC.set (c : SC w w1 o r q s g h k) (off : Nat) (v : Value) (e : (r.arr s).setIfInBounds off v = r'.arr s') : SC w (w1.setCell ⟨g, off, none⟩ v) o r' q s' g h k := c.put (kept_set w1 g off v) (e ▸ c.r.store off v)
theorem SC.also (c : SC w w1 o r q s g h k) (hk : Kept (some h) w1.heap.size w1 w2) (hb : Blk w2 h #[.bool k']) : SC w w2 o r q s g h k' :=
  ⟨c.below.trans (hk.oneB c.below.size (by have := c.hh; omega)), c.o.kept hk c.o.lt (fun e => by injection e with e; have := c.hh; omega), c.r.kept hk c.r.lt (fun e => by injection e with e; exact c.gh e.symm), hb, c.hg, c.hh, c.gh⟩
end
/-- What is told of the memory while the head of Check runs. -/
def CkM (W0 : World) (Z F : Array Value) (t : Bool) (L : Nat → Bool) (u : Nat → Value) (w1 : World) : Prop :=
  Below W0.heap.size W0 w1 ∧ Bx W0 11 13 Z F L u w1 ∧ Bx W0 12 14 #[.bool false] #[.bool t] L u w1
/-- What is told of values. -/
def VV (l : List (Option Value)) (j : Nat) (v : Value) : Prop := match l[j]? with | some (some x) => v = x | _ => True
theorem dz_arr0 : Deed.arr dz wz = #[.int .i64 0, .int .i64 0, .int .i64 0, .int .i64 0, .int .i64 0, .int .i64 0, .int .i64 0, .int .u32 0, .int .u32 0, .int .i64 0, .int .i64 0, .string (str []), .int .i64 0, .int .i64 0, .string (str []), .int .i64 0, .int .i64 0, .string (str []), .int .i64 0, .int .i64 0, .string (str []), .int .i64 0, .int .i64 0, .string (str []), .int .i64 0, .int .i64 0, .string (str []), .int .i64 0, .int .i64 0, .string (str []), .int .i64 0, .int .i64 0, .string (str []), .slice none 0 0, .int .u32 0, .int .u32 0, .int .u32 0, .int .i64 0, .int .i64 0, .string (str []), .int .i64 0, .int .i64 0, .string (str []), .int .i64 0, .int .i64 0, .string (str []), .int .i64 0, .int .i64 0, .string (str []), .int .i64 0, .int .i64 0, .string (str []), .int .i64 0, .int .i64 0, .string (str []), .int .i64 0, .int .i64 0, .string (str []), .int .i64 0, .int .i64 0, .string (str []), .slice none 0 0, .string (str [])] := dz_arr 0
theorem ckIdle {W0 w1 : World} {Z F : Array Value} {t : Bool} {L : Nat → Bool} {u : Nat → Value} {j : Nat} {v : Value} (B : Below W0.heap.size W0 w1) (X : Bx W0 11 13 Z F L u w1) (Y : Bx W0 12 14 #[.bool false] #[.bool t] L u w1) (h : j ≠ 11 ∧ j ≠ 13 ∧ j ≠ 12 ∧ j ≠ 14) :
    Below W0.heap.size W0 w1 ∧ Bx W0 11 13 Z F (upd L j true) (upd u j v) w1 ∧ Bx W0 12 14 #[.bool false] #[.bool t] (upd L j true) (upd u j v) w1 :=
  ⟨B, X.pure h.1 h.2.1 (Below.refl _ _), Y.pure h.2.2.1 h.2.2.2 (Below.refl _ _)⟩
end Go.Proofs.YtiedkcijjfmhaaaGreatDoor
namespace Go.Proofs.YtiedkcijjfmhaaaGreatDoor
open Go.RowKit

/-- The state of put: the act, and the bytes so far, in a slice of the call's own. -/
structure PT (w w' : World) (o : Deed) (q : Where) (acc : List UInt8) (A : Option Addr) (c : Nat) : Prop where
  below : Below w.heap.size w w'
  o : Blk w' w.heap.size (o.arr q)
  own : w'.ownsRow w.heap.size 5 1 (.slice A acc.length c) acc.length (acc.flatMap bc)
theorem In.own4 {α : Type} {k : Nat} {cs : α → List Value} {w : World} {base : Nat} {e : TypeId} {A : Option Addr} {c : Nat} {l : List α} (hk : ∀ x, (cs x).length = k) (h : w.ownsRow base e k (.slice A l.length c) l.length (l.flatMap cs)) (hs : l.length ≤ 4294967296) : In k cs w A c l := by
  obtain ⟨A', c', hv, hin⟩ := In.of_own hk h hs
  injection hv with e1 _ e2
  subst e1 e2
  exact hin
section
variable {w w1 w2 : World} {o : Deed} {q : Where} {acc acc' : List UInt8} {A A' : Option Addr} {c c' : Nat}
theorem PT.step (s : PT w w1 o q acc A c) (hb : Below w1.heap.size w1 w2) : PT w w2 o q acc A c := ⟨s.below.trans (hb.mono s.below.size), s.o.below hb s.o.lt, own_below s.own hb⟩
theorem PT.inb (s : PT w w1 o q acc A c) (h : acc.length ≤ 4294967296) : InB w1 A c acc := In.own4 bc_len s.own h
theorem PT.put (s : PT w w1 o q acc A c) (hb : Below w1.heap.size w1 w2) (own : w2.ownsRow w1.heap.size 5 1 (.slice A' acc'.length c') acc'.length (acc'.flatMap bc)) : PT w w2 o q acc' A' c' :=
  ⟨s.below.trans (hb.mono s.below.size), s.o.below hb s.o.lt, own_base own s.below.size⟩
end
end Go.Proofs.YtiedkcijjfmhaaaGreatDoor
namespace Go.Proofs.YtiedkcijjfmhaaaGreatDoor
open Go.RowKit

theorem ckMf : ∀ (fn : Fn) (first cap : Array Value) (w : World), (Instr.makeFunc fn first cap).run Tryz.prog w = .ok (.func fn first cap) w := fun _ _ _ _ => rfl
/-- What stands behind the head. -/
def CkRest (c : Code) : Prop := match (Tryz.f20).body with | some (.seq _ (.seq _ r)) => r = c | _ => False
set_option maxHeartbeats 40000000 in
set_option maxRecDepth 10000 in
theorem ckHead {c : Code} (hc : CkRest c) (o : Deed) (q : Where) (w : World) (Q : Ending → World → Prop) (ho : o.fit) (hq : o.at_ w q) (k1 : 1 ≤ o.kind) (k2 : o.kind ≤ 12)
    (HC : ∀ (W1 : World) (g h : Nat) (u : Nat → Value), SC w W1 o { dz with kind := o.kind } q wz g h true → Code.wp Tryz.prog c (bodyPost Tryz.prog Tryz.f20 Q)
      { tmps := #[Value.agg (o.arr q), Value.pointer (some ⟨w.heap.size, 0, none⟩), Value.bool false, Value.pointer (some ⟨g, 0, none⟩), Value.pointer (some ⟨h, 0, none⟩), undef, u 0, u 1, u 2, u 3, u 4, u 5, u 6, u 7, u 8, u 9, u 10, undef, undef, undef, undef, undef, undef, undef, undef, undef, undef, undef, undef, undef, undef, undef, undef, undef, undef, undef, undef, undef, undef, undef, undef, undef, undef, undef, undef, undef, undef, undef, undef, undef, undef, undef, undef, undef, undef, undef, undef, undef, undef, undef, undef, undef, undef, undef, undef, undef, undef, undef, undef, undef, undef, undef, undef, undef, undef, undef, undef, undef, undef, undef, undef, undef, undef, undef, undef, undef, undef, undef, undef, undef, undef, undef, undef, undef, undef, undef, undef, undef, undef, undef, undef, undef, undef, undef, undef, undef, undef, undef, undef, undef, undef, undef, undef, undef, undef, undef, undef, undef, undef, undef, undef, undef, undef, undef, undef, undef, undef, undef, undef, undef, undef, undef, undef, undef, undef, undef, undef, undef, undef, undef, undef, undef, undef], defers := [] } W1) : Calls Tryz.prog 20 #[.agg (o.arr q)] w Q := by
  have hc2 : _ = c := hc
  subst hc2
  have HCC := Lib.hid HC
  clear HC
  have B0 := Lib.hid (At.new w 45 (o.arr q))
  obtain ⟨W0, hW0⟩ : ∃ W, W = w.alloc (.cells (o.arr q) 45) := ⟨_, rfl⟩
  have HW0 := Lib.hid hW0
  rw [← hW0] at B0
  have HF := Lib.hid ho
  have HQ := Lib.hid hq
  have d1 : decide (1 ≤ o.kind) = true := by simp; omega
  have d2 : decide (o.kind ≤ 12) = true := by simp; omega
  have d1' : decide (o.kind < 1) = false := by simp; omega
  have d2' : decide (12 < o.kind) = false := by simp; omega
  obtain ⟨q0, q1, q2, q3, q4, q5, q6, q7⟩ := dcs ho.wf B0.out.2
  rw [hW0] at q0
  obtain ⟨R, hR⟩ : ∃ R : Deed, R = { dz with kind := o.kind } := ⟨_, rfl⟩
  have hRw : R.wf := by rw [hR]; exact ⟨rfl, rfl⟩
  obtain ⟨Z, hZ⟩ : ∃ Z, Z = Deed.arr dz wz := ⟨_, rfl⟩
  obtain ⟨F, hF⟩ : ∃ F, F = R.arr wz := ⟨_, rfl⟩
  have hZ63 : Z.size = 63 := by rw [hZ]; exact Deed.arr_size dz_wf
  have hF63 : F.size = 63 := by rw [hF]; exact Deed.arr_size hRw
  have hF1 : (F.all fun x => x.oneCell') = true := by rw [hF]; exact Deed.arr_ones hRw
  have HFe := Lib.hid ((show F = Deed.arr { dz with kind := o.kind } wz by rw [hF, hR]).trans (dz_arr o.kind))
  have HZe := Lib.hid (hZ.trans dz_arr0)
  have HFr := Lib.hid hF
  have HR := Lib.hid hR
  clear ho hq hW0 hR hZ hF k1 k2
  go_enter Tryz.func20, Tryz.ntmps20
  go_wp2_with (fail)
  rw [← HW0.out]
  refine wp_region_relM (VV [some (.pointer (some ⟨w.heap.size, 0, none⟩)), some (.int .i64 o.kind), some (.agg F), some (.pointer (some ⟨w.heap.size, 0, none⟩)), some (.int .i64 o.kind), some (.bool true), some (.bool true), some (.pointer (some ⟨w.heap.size, 0, none⟩)), some (.int .i64 o.kind), some (.bool true), some (.bool true)]) (CkM W0 Z F true) 143 (by kernel_rfl) (by kernel_rfl) rfl ?_ ?_ ?_
  · intro u w' hb _
    exact ⟨hb, Bx.start rfl rfl, Bx.start rfl rfl⟩
  · refine ⟨?_, ?_, ?_, ?_, ?_, ?_, ?_, ?_, ?_, ?_, ?_, ?_, ?_, ?_, ?_, trivial⟩
    all_goals
      rintro L u W1 ⟨hB, hX, hY⟩ hL hd
      have X := Lib.hid hX
      have Y := Lib.hid hY
      have B := Lib.hid hB
      clear hX hY hB
      have BO := Lib.hid (B0.out.2.below B.out B0.out.2.lt)
      obtain ⟨p0, p1, p2, p3, p4, p5, p6, p7⟩ := dcs HF.out.wf BO.out
      have hz0 := BO.out.lt
      clear p1 p2 p3 p4 p5 p6 p7
      simp [DepsM, Region.binds, VV] at hd
      simp only [putDeps, dstOf, Region.binds]
    case refine_1 | refine_2 | refine_4 | refine_5 | refine_6 | refine_7 | refine_8 | refine_9 | refine_10 | refine_11 =>
      go_wp2_with (fail)
      exact EndM.mk rfl ⟨rfl, ckIdle B.out X.out Y.out (by decide)⟩
    case refine_3 =>
      go_wp2_with (fail)
      exact EndM.mk rfl ⟨by show _ = Value.agg F; rw [HFe.out]; rfl, B.out, X.out.pure (by decide) (by decide) (Below.refl _ _), Y.out.pure (by decide) (by decide) (Below.refl _ _)⟩
    case refine_12 =>
      go_wp2_with (fail)
      refine EndM.mk rfl ⟨trivial, B.out.alloc B.out.size _, ?_, Y.out.pure (by decide) (by decide) ((Below.refl _ _).alloc (Nat.le_refl _) _)⟩
      have := X.out.make hL (by decide) B.out.size 45
      rw [HZe.out] at this ⊢
      exact this
    case refine_13 =>
      go_wp2_with (fail)
      exact EndM.mk rfl ⟨trivial, B.out.alloc B.out.size _, X.out.pure (by decide) (by decide) ((Below.refl _ _).alloc (Nat.le_refl _) _), Y.out.make hL (by decide) B.out.size 4⟩
    case refine_14 =>
      obtain ⟨l11, ⟨-, e2⟩, -⟩ := hd
      obtain ⟨g, e11, hg, hbk⟩ := X.out.at l11 hL
      simp only [e11, e2]
      go_wp2_with (with_reducible refine stS 45 (.tmp 3) (.tmp 8) rfl rfl ?_)
      refine Stop.mk (wsB rfl _ _ _ rfl g _ rfl rfl _ hbk strOp hF63 (by rw [hZ63, hF63]) hF1 ?_)
      intro w2 hb2 hk2
      go_wp2_with (fail)
      exact EndM.mk0 rfl ⟨trivial, B.out.trans (hk2.oneB B.out.size hg), X.out.fill l11 (by decide) e11 hg hb2, Y.out.far (by decide) (by decide) hbk (by rw [hZ63]; decide) (by rw [hZ63]; decide) hk2⟩
    case refine_15 =>
      obtain ⟨l12, ⟨-, e10⟩, -⟩ := hd
      obtain ⟨g, e12, hg, hbk⟩ := Y.out.at l12 hL
      simp only [e12, e10]
      have c0 := hbk.cell (show #[Value.bool false][0]? = some (.bool false) from rfl)
      have ff := hbk.frozen 0
      have hlt := hbk.lt
      go_wp2_with (fail)
      exact EndM.mk0 rfl ⟨trivial, B.out.trans ((kept_set _ _ _ _).oneB B.out.size hg), X.out.far (by decide) (by decide) hbk (by rw [hZ63]; decide) (by rw [hF63]; decide) (kept_set _ _ _ _), Y.out.fill l12 (by decide) e12 hg (hbk.store 0 _)⟩
  · rintro u W1 hv ⟨hB, hX, hY⟩
    obtain ⟨g, e11, hg, hbg⟩ := hX.done (by decide) (by decide)
    obtain ⟨h, e12, hh, hbh⟩ := hY.done (by decide) (by decide)
    have hsz := B0.out.2.lt
    have S := Lib.hid (show SC w W1 o R q wz g h true from ⟨B0.out.1.trans (hB.mono B0.out.1.size), B0.out.2.below hB B0.out.2.lt, HFr.out ▸ hbg, hbh, by omega, by omega, fun e => by subst e; have := congrArg Array.size (Blk.inj hbg hbh); rw [hF63] at this; simp at this⟩)
    clear hv hX hY hB hbg hbh hg hh hsz
    simp only [putAll, Act.put, Nat.reduceAdd, List.setIfInBounds_toArray, List.set_cons_zero, List.set_cons_succ]
    rw [e11, e12]
    clear e11 e12 HW0 B0
    have S1 : SC w W1 o { dz with kind := o.kind } q wz g h true := by rw [← HR.out]; exact S.out
    rename_i K0 KC
    show K0 _ _
    exact KC _ _ (HCC.out W1 g h u S1)
end Go.Proofs.YtiedkcijjfmhaaaGreatDoor
namespace Go.Proofs.YtiedkcijjfmhaaaGreatDoor
open Go.RowKit

set_option maxHeartbeats 40000000 in
set_option maxRecDepth 10000 in
theorem script_put_D (b : List UInt8) (B : Option Addr) (cb : Nat) (o : Deed) (q : Where) (w : World) (hb : InB w B cb b) (hbl : b.length ≤ 800000) (hT : Tab w) (ho : o.fit) (hq : o.at_ w q) (hk : o.kind = 4 ∨ o.kind = 6) :
    Calls Tryz.prog 21 #[.slice B b.length cb, .agg (o.arr q)] w (RetS 1 bc 5 w (b ++ deedB o)) := by
  have FE : dE o.kind = false := by unfold dE; simp; omega
  have FN : dN o.kind = false := by unfold dN; simp; omega
  have FD : dD o.kind = true := by unfold dD; simp; omega
  have FF : dF o.kind = false := by unfold dF; simp; omega
  have FW : dW o.kind = false := by unfold dW; simp; omega
  have FK : dK o.kind = false := by unfold dK; simp; omega
  have FT : dT o.kind = false := by unfold dT; simp; omega
  have HK := Lib.hid (show deedB o = num o.kind ++ (num o.dev) by unfold deedB deedT; rw [FE, FN, FD, FF, FW, FK, FT]; simp)
  have hn1 := (num_len o.dev).2
  have hL := hb.1
  have hC := hb.2.1
  have HF := Lib.hid ho
  have HQ := Lib.hid hq
  have HB := Lib.hid hb
  have HT := Lib.hid hT
  have hn0 := (num_len o.kind).2
  have B0 := Lib.hid (At.new w 45 (o.arr q))
  obtain ⟨p0, p1, p2, p3, p4, p5, p6, p7⟩ := dcs ho.wf B0.out.2
  clear hb hT ho hq hk
  go_enter Tryz.func21, Tryz.ntmps21
  go_wp2_with (fail)
  refine (c_octet_Num b B cb o.kind _ (HB.out.below B0.out.1)).mono ?_
  rintro e w1 ⟨v1, rfl, own1, hb1⟩
  obtain ⟨acc, hacc⟩ : ∃ l, l = b ++ num o.kind := ⟨_, rfl⟩
  rw [← hacc] at own1
  have han : acc.length ≤ b.length + 7 := by rw [hacc, List.length_append]; omega
  have HA := Lib.hid hacc
  obtain ⟨A1, c1, rfl, -⟩ := In.of_own bc_len own1 (by omega)
  have S := Lib.hid (show PT w w1 o q acc A1 c1 from ⟨B0.out.1.trans (hb1.mono B0.out.1.size), B0.out.2.below hb1 B0.out.2.lt, own_base own1 B0.out.1.size⟩)
  clear own1 hb1 hacc B0 p0 p1 p2 p3 p4 p5 p6 p7
  obtain ⟨p0, p1, p2, p3, p4, p5, p6, p7⟩ := dcs HF.out.wf S.out.o
  go_wp2_with (fail)
  refine (csh o.kind 1 _).mono ?_
  rintro e w1 ⟨rfl, hb1⟩
  rw [hasD_E o.kind, FE]
  replace S := Lib.hid (S.out.step hb1)
  clear hb1 p0 p1 p2 p3 p4 p5 p6 p7
  obtain ⟨p0, p1, p2, p3, p4, p5, p6, p7⟩ := dcs HF.out.wf S.out.o
  go_wp2_with (fail)
  refine (csh o.kind 2 _).mono ?_
  rintro e w1 ⟨rfl, hb1⟩
  rw [hasD_N o.kind, FN]
  replace S := Lib.hid (S.out.step hb1)
  clear hb1 p0 p1 p2 p3 p4 p5 p6 p7
  obtain ⟨p0, p1, p2, p3, p4, p5, p6, p7⟩ := dcs HF.out.wf S.out.o
  go_wp2_with (fail)
  refine (csh o.kind 4 _).mono ?_
  rintro e w1 ⟨rfl, hb1⟩
  rw [hasD_D o.kind, FD]
  replace S := Lib.hid (S.out.step hb1)
  clear hb1 p0 p1 p2 p3 p4 p5 p6 p7
  obtain ⟨p0, p1, p2, p3, p4, p5, p6, p7⟩ := dcs HF.out.wf S.out.o
  go_wp2_with (fail)
  refine (c_octet_Num acc A1 c1 o.dev _ (S.out.inb (by omega))).mono ?_
  rintro e w2 ⟨v2, rfl, own2, hb2⟩
  obtain ⟨l2, hl2⟩ : ∃ l, l = acc ++ num o.dev := ⟨_, rfl⟩
  rw [← hl2] at own2
  have hl2n : l2.length ≤ b.length + 14 := by rw [hl2, List.length_append]; omega
  replace HA := Lib.hid (hl2.trans (by rw [HA.out]))
  obtain ⟨A2, c2, rfl, -⟩ := In.of_own bc_len own2 (by omega)
  replace S := Lib.hid (S.out.put hb2 own2)
  clear hb2 own2 hl2 p0 p1 p2 p3 p4 p5 p6 p7
  obtain ⟨p0, p1, p2, p3, p4, p5, p6, p7⟩ := dcs HF.out.wf S.out.o
  go_wp2_with (fail)
  refine (csh o.kind 8 _).mono ?_
  rintro e w1 ⟨rfl, hb1⟩
  rw [hasD_F o.kind, FF]
  replace S := Lib.hid (S.out.step hb1)
  clear hb1 p0 p1 p2 p3 p4 p5 p6 p7
  obtain ⟨p0, p1, p2, p3, p4, p5, p6, p7⟩ := dcs HF.out.wf S.out.o
  go_wp2_with (fail)
  refine (csh o.kind 16 _).mono ?_
  rintro e w1 ⟨rfl, hb1⟩
  rw [hasD_W o.kind, FW]
  replace S := Lib.hid (S.out.step hb1)
  clear hb1 p0 p1 p2 p3 p4 p5 p6 p7
  obtain ⟨p0, p1, p2, p3, p4, p5, p6, p7⟩ := dcs HF.out.wf S.out.o
  go_wp2_with (fail)
  refine (csh o.kind 32 _).mono ?_
  rintro e w1 ⟨rfl, hb1⟩
  rw [hasD_K o.kind, FK]
  replace S := Lib.hid (S.out.step hb1)
  clear hb1 p0 p1 p2 p3 p4 p5 p6 p7
  obtain ⟨p0, p1, p2, p3, p4, p5, p6, p7⟩ := dcs HF.out.wf S.out.o
  go_wp2_with (fail)
  refine (csh o.kind 64 _).mono ?_
  rintro e w1 ⟨rfl, hb1⟩
  rw [hasD_T o.kind, FT]
  replace S := Lib.hid (S.out.step hb1)
  clear hb1 p0 p1 p2 p3 p4 p5 p6 p7
  obtain ⟨p0, p1, p2, p3, p4, p5, p6, p7⟩ := dcs HF.out.wf S.out.o
  go_wp2_with (fail)
  go_ret
  exact RetS.of S.out.own (Nat.le_refl _) (by rw [HA.out, HK.out]; simp) S.out.below
end Go.Proofs.YtiedkcijjfmhaaaGreatDoor
