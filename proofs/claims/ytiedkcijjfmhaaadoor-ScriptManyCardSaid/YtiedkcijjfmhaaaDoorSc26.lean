/-
  The walk of script.Check, a class of kinds. (Printed by gen47d.py.)
-/
import Derived.Test.YtiedkcijjfmhaaaDoorSc1
import Derived.Test.YtiedkcijjfmhaaaDoorSc7
import Derived.Test.YtiedkcijjfmhaaaDoorSc18
namespace Go.Proofs.YtiedkcijjfmhaaaDoor
open Go.RowKit

/-- The act that is made, while the filter and the mask are stored. -/
def FR (o : Deed) (a b : Bool) : Deed := { dz with kind := o.kind, dev := o.dev, f := if a = true then o.f else [], mask := if b = true then o.mask else 0 }
def Fz (q : Where) (a : Bool) : Where := ⟨if a = true then q.A else none, if a = true then q.n else 0, none, 0⟩
theorem FR_wf {o : Deed} (a b : Bool) : (FR o a b).wf := ⟨rfl, rfl⟩
def FM (w : World) (o : Deed) (q : Where) (g h : Nat) (k : Bool) (L : Nat → Bool) (_u : Nat → Value) (w1 : World) : Prop := SC w w1 o (FR o (L 5) (L 7)) q (Fz q (L 5)) g h k
section
variable {w w1 : World} {o : Deed} {q : Where} {g h : Nat} {k : Bool} {L : Nat → Bool} {u : Nat → Value} {v : Value} {j : Nat}
theorem FM.start (c : SC w w1 o { dz with kind := o.kind, dev := o.dev } q wz g h k) : FM w o q g h k (fun _ => false) u w1 := c
theorem FM.pure (c : FM w o q g h k L u w1) (h5 : j ≠ 5) (h7 : j ≠ 7) : FM w o q g h k (upd L j true) (upd u j v) w1 := by
  unfold FM
  rw [upd_other _ _ (Ne.symm h5), upd_other _ _ (Ne.symm h7)]
  exact c
theorem FM.blk (c : FM w o q g h k L u w1) : Blk w1 w.heap.size (o.arr q) := SC.o c
theorem FM.row (c : FM w o q g h k L u w1) : Blk w1 g ((FR o (L 5) (L 7)).arr (Fz q (L 5))) := SC.r c
theorem FM.set5 (c : FM w o q g h k L u w1) (hL : L 5 = false) : FM w o q g h k (upd L 5 true) (upd u 5 v) (w1.setCell ⟨g, 33, none⟩ (.slice q.A o.f.length q.n)) := by
  unfold FM
  rw [upd_same, upd_other _ _ (by decide)]
  have c' : SC w w1 o (FR o (L 5) (L 7)) q (Fz q (L 5)) g h k := c
  rw [hL] at c'
  exact c'.set 33 _ (Deed.setF (FR_wf _ _) q.A o.f q.n)
theorem FM.set7 (c : FM w o q g h k L u w1) (hL : L 7 = false) : FM w o q g h k (upd L 7 true) (upd u 7 v) (w1.setCell ⟨g, 34, none⟩ (.int .u32 o.mask)) := by
  unfold FM
  rw [upd_same, upd_other _ _ (by decide)]
  have c' : SC w w1 o (FR o (L 5) (L 7)) q (Fz q (L 5)) g h k := c
  rw [hL] at c'
  exact c'.set 34 _ (Deed.setM (FR_wf _ _) o.mask)
theorem FM.done (c : FM w o q g h k (fun j => decide (j < 8)) u w1) : SC w w1 o { dz with kind := o.kind, dev := o.dev, f := o.f, mask := o.mask } q ⟨q.A, q.n, none, 0⟩ g h k := c
end
theorem ok_F {o : Deed} (hk : o.kind = 3) : o.ok = ((decide (0 ≤ o.dev ∧ o.dev ≤ 5) && decide (check o.f = 0 ∧ o.mask < 512)) && decide (({ dz with kind := o.kind, dev := o.dev, f := o.f, mask := o.mask } : Deed) = o)) := by
  have e : (o.only = o) = (({ dz with kind := o.kind, dev := o.dev, f := o.f, mask := o.mask } : Deed) = o) := by
    unfold Deed.only
    (have k := hk); simp [dE, dN, dD, dF, dW, dK, dT, k]
  unfold Deed.ok Deed.may
  simp only [e]
  congr 1
  (have k := hk); simp [dE, dN, dD, dF, dW, dK, dT, k]
set_option maxHeartbeats 40000000 in
set_option maxRecDepth 10000 in
theorem script_Check_Fa1 (o : Deed) (q : Where) (w : World) (ho : o.fit) (hq : o.at_ w q) (hk : o.kind = 3) (h0 : 0 ≤ o.dev) (h1 : o.dev ≤ 5) (g0 : check o.f = 0) (g1 : o.mask < 512) : Calls Tryd.prog 8 #[.agg (o.arr q)] w (RetV w (.bool o.ok)) := by
  have k1 : 1 ≤ o.kind := by omega
  have k2 : o.kind ≤ 12 := by omega
  have FE : dE o.kind = false := by unfold dE; simp; omega
  have FN : dN o.kind = false := by unfold dN; simp; omega
  have FD : dD o.kind = true := by unfold dD; simp; omega
  have FF : dF o.kind = true := by unfold dF; simp; omega
  have FW : dW o.kind = false := by unfold dW; simp; omega
  have FK : dK o.kind = false := by unfold dK; simp; omega
  have FT : dT o.kind = false := by unfold dT; simp; omega
  have t1 : decide (0 ≤ o.dev) = true := by simp; omega
  have t1' : decide (o.dev < 0) = false := by simp; omega
  have t2 : decide (o.dev < 6) = true := by simp; omega
  have t2' : decide (6 ≤ o.dev) = false := by simp; omega
  have u1 : (check o.f == 0) = true := by simpa using g0
  have u2 : decide (o.mask ≤ 511) = true := by simp; omega
  have HK := Lib.hid (show o.ok = decide (({ dz with kind := o.kind, dev := o.dev, f := o.f, mask := o.mask } : Deed) = o) by rw [ok_F hk, decide_eq_true (show 0 ≤ o.dev ∧ o.dev ≤ 5 from ⟨h0, h1⟩), decide_eq_true (show check o.f = 0 ∧ o.mask < 512 from ⟨g0, g1⟩)]; first | rfl | simp)
  clear h0 g0 h1 g1
  have B0 := Lib.hid (At.new w 38 (o.arr q))
  obtain ⟨W0, hW0⟩ : ∃ W, W = w.alloc (.cells (o.arr q) 38) := ⟨_, rfl⟩
  have HW0 := Lib.hid hW0
  rw [← hW0] at B0
  have HF := Lib.hid ho
  have HQ := Lib.hid hq
  have d1 : decide (1 ≤ o.kind) = true := by simp; omega
  have d2 : decide (o.kind ≤ 12) = true := by simp; omega
  have d1' : decide (o.kind < 1) = false := by simp; omega
  have d2' : decide (12 < o.kind) = false := by simp; omega
  obtain ⟨q0, q1, q2, q3, q4, q5, q6, q7⟩ := dcs ho.wf B0.out.2
  rw [hW0] at q0
  obtain ⟨R, hR⟩ : ∃ R : Deed, R = { dz with kind := o.kind } := ⟨_, rfl⟩
  have hRw : R.wf := by rw [hR]; exact ⟨rfl, rfl⟩
  obtain ⟨Z, hZ⟩ : ∃ Z, Z = Deed.arr dz wz := ⟨_, rfl⟩
  obtain ⟨F, hF⟩ : ∃ F, F = R.arr wz := ⟨_, rfl⟩
  have hZ63 : Z.size = 63 := by rw [hZ]; exact Deed.arr_size dz_wf
  have hF63 : F.size = 63 := by rw [hF]; exact Deed.arr_size hRw
  have hF1 : (F.all fun x => x.oneCell') = true := by rw [hF]; exact Deed.arr_ones hRw
  have HFe := Lib.hid ((show F = Deed.arr { dz with kind := o.kind } wz by rw [hF, hR]).trans (dz_arr o.kind))
  have HZe := Lib.hid (hZ.trans dz_arr0)
  have HFr := Lib.hid hF
  have HR := Lib.hid hR
  clear ho hq hk hW0 hR hZ hF k1 k2
  go_enter Tryd.func8, Tryd.ntmps8
  go_wp2_with (fail)
  rw [← HW0.out]
  refine wp_region_relM (VV [some (.pointer (some ⟨w.heap.size, 0, none⟩)), some (.int .i64 o.kind), some (.agg F), some (.pointer (some ⟨w.heap.size, 0, none⟩)), some (.int .i64 o.kind), some (.bool true), some (.bool true), some (.pointer (some ⟨w.heap.size, 0, none⟩)), some (.int .i64 o.kind), some (.bool true), some (.bool true)]) (CkM W0 Z F true) 143 (by kernel_rfl) (by kernel_rfl) rfl ?_ ?_ ?_
  · intro u w' hb _
    exact ⟨hb, Bx.start rfl rfl, Bx.start rfl rfl⟩
  · refine ⟨?_, ?_, ?_, ?_, ?_, ?_, ?_, ?_, ?_, ?_, ?_, ?_, ?_, ?_, ?_, trivial⟩
    all_goals
      rintro L u W1 ⟨hB, hX, hY⟩ hL hd
      have X := Lib.hid hX
      have Y := Lib.hid hY
      have B := Lib.hid hB
      clear hX hY hB
      have BO := Lib.hid (B0.out.2.below B.out B0.out.2.lt)
      obtain ⟨p0, p1, p2, p3, p4, p5, p6, p7⟩ := dcs HF.out.wf BO.out
      have hz0 := BO.out.lt
      clear p1 p2 p3 p4 p5 p6 p7
      simp [DepsM, Region.binds, VV] at hd
      simp only [putDeps, dstOf, Region.binds]
    case refine_1 =>
      go_wp2_with (fail)
      exact EndM.mk rfl ⟨rfl, ckIdle B.out X.out Y.out (by decide)⟩
    case refine_2 =>
      go_wp2_with (fail)
      exact EndM.mk rfl ⟨rfl, ckIdle B.out X.out Y.out (by decide)⟩
    case refine_3 =>
      go_wp2_with (fail)
      exact EndM.mk rfl ⟨by show _ = Value.agg F; rw [HFe.out]; rfl, B.out, X.out.pure (by decide) (by decide) (Below.refl _ _), Y.out.pure (by decide) (by decide) (Below.refl _ _)⟩
    case refine_4 =>
      go_wp2_with (fail)
      exact EndM.mk rfl ⟨rfl, ckIdle B.out X.out Y.out (by decide)⟩
    case refine_5 =>
      go_wp2_with (fail)
      exact EndM.mk rfl ⟨rfl, ckIdle B.out X.out Y.out (by decide)⟩
    case refine_6 =>
      go_wp2_with (fail)
      exact EndM.mk rfl ⟨rfl, ckIdle B.out X.out Y.out (by decide)⟩
    case refine_7 =>
      go_wp2_with (fail)
      exact EndM.mk rfl ⟨rfl, ckIdle B.out X.out Y.out (by decide)⟩
    case refine_8 =>
      go_wp2_with (fail)
      exact EndM.mk rfl ⟨rfl, ckIdle B.out X.out Y.out (by decide)⟩
    case refine_9 =>
      go_wp2_with (fail)
      exact EndM.mk rfl ⟨rfl, ckIdle B.out X.out Y.out (by decide)⟩
    case refine_10 =>
      go_wp2_with (fail)
      exact EndM.mk rfl ⟨rfl, ckIdle B.out X.out Y.out (by decide)⟩
    case refine_11 =>
      go_wp2_with (fail)
      exact EndM.mk rfl ⟨rfl, ckIdle B.out X.out Y.out (by decide)⟩
    case refine_12 =>
      go_wp2_with (fail)
      refine EndM.mk rfl ⟨trivial, B.out.alloc B.out.size _, ?_, Y.out.pure (by decide) (by decide) ((Below.refl _ _).alloc (Nat.le_refl _) _)⟩
      have := X.out.make hL (by decide) B.out.size 38
      rw [HZe.out] at this ⊢
      exact this
    case refine_13 =>
      go_wp2_with (fail)
      exact EndM.mk rfl ⟨trivial, B.out.alloc B.out.size _, X.out.pure (by decide) (by decide) ((Below.refl _ _).alloc (Nat.le_refl _) _), Y.out.make hL (by decide) B.out.size 4⟩
    case refine_14 =>
      obtain ⟨l11, ⟨-, e2⟩, -⟩ := hd
      obtain ⟨g, e11, hg, hbk⟩ := X.out.at l11 hL
      simp only [e11, e2]
      go_wp2_with (with_reducible refine stS 38 (.tmp 3) (.tmp 8) rfl rfl ?_)
      refine Stop.mk (wsB rfl _ _ _ rfl g _ rfl rfl _ hbk strOp hF63 (by rw [hZ63, hF63]) hF1 ?_)
      intro w2 hb2 hk2
      go_wp2_with (fail)
      exact EndM.mk0 rfl ⟨trivial, B.out.trans (hk2.oneB B.out.size hg), X.out.fill l11 (by decide) e11 hg hb2, Y.out.far (by decide) (by decide) hbk (by rw [hZ63]; decide) (by rw [hZ63]; decide) hk2⟩
    case refine_15 =>
      obtain ⟨l12, ⟨-, e10⟩, -⟩ := hd
      obtain ⟨g, e12, hg, hbk⟩ := Y.out.at l12 hL
      simp only [e12, e10]
      have c0 := hbk.cell (show #[Value.bool false][0]? = some (.bool false) from rfl)
      have ff := hbk.frozen 0
      have hlt := hbk.lt
      go_wp2_with (fail)
      exact EndM.mk0 rfl ⟨trivial, B.out.trans ((kept_set _ _ _ _).oneB B.out.size hg), X.out.far (by decide) (by decide) hbk (by rw [hZ63]; decide) (by rw [hF63]; decide) (kept_set _ _ _ _), Y.out.fill l12 (by decide) e12 hg (hbk.store 0 _)⟩
  · rintro u W1 hv ⟨hB, hX, hY⟩
    obtain ⟨g, e11, hg, hbg⟩ := hX.done (by decide) (by decide)
    obtain ⟨h, e12, hh, hbh⟩ := hY.done (by decide) (by decide)
    have hsz := B0.out.2.lt
    have S := Lib.hid (show SC w W1 o R q wz g h true from ⟨B0.out.1.trans (hB.mono B0.out.1.size), B0.out.2.below hB B0.out.2.lt, HFr.out ▸ hbg, hbh, by omega, by omega, fun e => by subst e; have := congrArg Array.size (Blk.inj hbg hbh); rw [hF63] at this; simp at this⟩)
    clear hv hX hY hB hbg hbh hg hh hsz
    simp only [putAll, Act.put, Nat.reduceAdd, List.setIfInBounds_toArray, List.set_cons_zero, List.set_cons_succ]
    rw [e11, e12]
    clear e11 e12 HW0 B0
    have hmf : ∀ (fn : Fn) (first cap : Array Value) (w : World), (Instr.makeFunc fn first cap).run Tryd.prog w = .ok (.func fn first cap) w := fun _ _ _ _ => rfl
    obtain ⟨p0, p1, p2, p3, p4, p5, p6, p7⟩ := dcs HF.out.wf S.out.o
    go_wp2_with (fail)
    refine (csh o.kind 1 _).mono ?_
    rintro e w1 ⟨rfl, hb1⟩
    rw [hasD_E o.kind, FE]
    replace S := Lib.hid (S.out.step hb1)
    clear hb1 p0 p1 p2 p3 p4 p5 p6 p7
    obtain ⟨p0, p1, p2, p3, p4, p5, p6, p7⟩ := dcs HF.out.wf S.out.o
    go_wp2_with (fail)
    refine (csh o.kind 2 _).mono ?_
    rintro e w1 ⟨rfl, hb1⟩
    rw [hasD_N o.kind, FN]
    replace S := Lib.hid (S.out.step hb1)
    clear hb1 p0 p1 p2 p3 p4 p5 p6 p7
    obtain ⟨p0, p1, p2, p3, p4, p5, p6, p7⟩ := dcs HF.out.wf S.out.o
    go_wp2_with (fail)
    refine (csh o.kind 4 _).mono ?_
    rintro e w1 ⟨rfl, hb1⟩
    rw [hasD_D o.kind, FD]
    replace S := Lib.hid (S.out.step hb1)
    clear hb1 p0 p1 p2 p3 p4 p5 p6 p7
    obtain ⟨p0, p1, p2, p3, p4, p5, p6, p7⟩ := dcs HF.out.wf S.out.o
    have s9 := S.out.r.cell (Deed.getI 2 (by omega))
    have sf := fun i => S.out.r.frozen i
    have slt := S.out.r.lt
    have S2 := Lib.hid (S.out.set (r' := { dz with kind := o.kind, dev := o.dev }) (s' := wz) 2 (.int .i64 o.dev) (by rw [HR.out]; have := Deed.setI (o := { dz with kind := o.kind }) (q := wz) ⟨rfl, rfl⟩ 2 (by omega) o.dev; simpa using this))
    obtain ⟨r0, r1, r2, r3, r4, r5, r6, r7⟩ := dcs HF.out.wf S2.out.o
    go_wp2_with (fail)
    replace S := S2
    clear s9 sf slt S2 r0 r1 r2 r3 r4 r5 r6 r7
    refine (c_script_Check1 true true h _ S.out.k).mono ?_
    rintro e w2 ⟨rfl, hbk, hkk⟩
    replace S := Lib.hid (S.out.also hkk hbk)
    clear hbk hkk p0 p1 p2 p3 p4 p5 p6 p7
    obtain ⟨p0, p1, p2, p3, p4, p5, p6, p7⟩ := dcs HF.out.wf S.out.o
    go_wp2_with (fail)
    refine (csh o.kind 8 _).mono ?_
    rintro e w1 ⟨rfl, hb1⟩
    rw [hasD_F o.kind, FF]
    replace S := Lib.hid (S.out.step hb1)
    clear hb1 p0 p1 p2 p3 p4 p5 p6 p7
    obtain ⟨p0, p1, p2, p3, p4, p5, p6, p7⟩ := dcs HF.out.wf S.out.o
    go_wp2_with (fail)
    refine wp_region_relM (VV [some (.pointer (some ⟨w.heap.size, 33, none⟩)), some (.slice q.A o.f.length q.n), some (.pointer (some ⟨w.heap.size, 34, none⟩)), some (.int .u32 o.mask), some (.pointer (some ⟨g, 33, none⟩)), none, some (.pointer (some ⟨g, 34, none⟩)), none]) (FM w o q g h true) 143 (by kernel_rfl) (by kernel_rfl) rfl ?_ ?_ ?_
    · intro u w' hb hh
      exact FM.start (S.out.step hb)
    · refine ⟨?_, ?_, ?_, ?_, ?_, ?_, ?_, ?_, trivial⟩
      all_goals
        rintro L u W1 hM hL hd
        have M := Lib.hid hM
        clear hM
        clear p0 p1 p2 p3 p4 p5 p6 p7
        obtain ⟨p0, p1, p2, p3, p4, p5, p6, p7⟩ := dcs HF.out.wf M.out.o
        simp [DepsM, Region.binds, VV] at hd
        simp only [putDeps, dstOf, Region.binds]
      case refine_1 =>
        go_wp2_with (fail)
        exact EndM.mk rfl ⟨rfl, M.out.pure (by decide) (by decide)⟩
      case refine_2 =>
        go_wp2_with (fail)
        exact EndM.mk rfl ⟨rfl, M.out.pure (by decide) (by decide)⟩
      case refine_3 =>
        go_wp2_with (fail)
        exact EndM.mk rfl ⟨rfl, M.out.pure (by decide) (by decide)⟩
      case refine_4 =>
        go_wp2_with (fail)
        exact EndM.mk rfl ⟨rfl, M.out.pure (by decide) (by decide)⟩
      case refine_5 =>
        go_wp2_with (fail)
        exact EndM.mk rfl ⟨rfl, M.out.pure (by decide) (by decide)⟩
      case refine_6 =>
        have s9 := M.out.row.cell (Deed.getF (FR_wf _ _) 0 (by omega))
        have sf := fun i => M.out.row.frozen i
        have slt := M.out.row.lt
        go_wp2_with (fail)
        exact EndM.mk0 rfl ⟨trivial, FM.set5 M.out hL⟩
      case refine_7 =>
        go_wp2_with (fail)
        exact EndM.mk rfl ⟨rfl, M.out.pure (by decide) (by decide)⟩
      case refine_8 =>
        have s9 := M.out.row.cell (Deed.getF (FR_wf _ _) 1 (by omega))
        have sf := fun i => M.out.row.frozen i
        have slt := M.out.row.lt
        go_wp2_with (fail)
        exact EndM.mk0 rfl ⟨trivial, FM.set7 M.out hL⟩
    · rintro u W1 hv hM
      have S := Lib.hid (FM.done hM)
      clear hv hM p0 p1 p2 p3 p4 p5 p6 p7
      simp only [putAll, Act.put, Nat.reduceAdd, List.setIfInBounds_toArray, List.set_cons_zero, List.set_cons_succ]
      obtain ⟨p0, p1, p2, p3, p4, p5, p6, p7⟩ := dcs HF.out.wf S.out.o
      go_wp2_with (fail)
      refine (c_pred_Check o.f q.A q.n _ (HQ.out.below S.out.below).f (fun x hx => by have := HF.out.fs x hx; omega)).mono ?_
      rintro e w4 ⟨rfl, hb4⟩
      replace S := Lib.hid (S.out.step hb4)
      clear hb4 p0 p1 p2 p3 p4 p5 p6 p7
      obtain ⟨p0, p1, p2, p3, p4, p5, p6, p7⟩ := dcs HF.out.wf S.out.o
      go_wp2_with (fail)
      refine (c_mask_Check o.mask HF.out.m _).mono ?_
      rintro e w5 ⟨rfl, hb5⟩
      rw [u2]
      replace S := Lib.hid (S.out.step hb5)
      clear hb5 p0 p1 p2 p3 p4 p5 p6 p7
      obtain ⟨p0, p1, p2, p3, p4, p5, p6, p7⟩ := dcs HF.out.wf S.out.o
      go_wp2_with (fail)
      refine (c_script_Check1 true true h _ S.out.k).mono ?_
      rintro e w2 ⟨rfl, hbk, hkk⟩
      replace S := Lib.hid (S.out.also hkk hbk)
      clear hbk hkk p0 p1 p2 p3 p4 p5 p6 p7
      obtain ⟨p0, p1, p2, p3, p4, p5, p6, p7⟩ := dcs HF.out.wf S.out.o
      go_wp2_with (fail)
      refine (csh o.kind 16 _).mono ?_
      rintro e w1 ⟨rfl, hb1⟩
      rw [hasD_W o.kind, FW]
      replace S := Lib.hid (S.out.step hb1)
      clear hb1 p0 p1 p2 p3 p4 p5 p6 p7
      obtain ⟨p0, p1, p2, p3, p4, p5, p6, p7⟩ := dcs HF.out.wf S.out.o
      go_wp2_with (fail)
      refine (csh o.kind 32 _).mono ?_
      rintro e w1 ⟨rfl, hb1⟩
      rw [hasD_K o.kind, FK]
      replace S := Lib.hid (S.out.step hb1)
      clear hb1 p0 p1 p2 p3 p4 p5 p6 p7
      obtain ⟨p0, p1, p2, p3, p4, p5, p6, p7⟩ := dcs HF.out.wf S.out.o
      go_wp2_with (fail)
      refine (csh o.kind 64 _).mono ?_
      rintro e w1 ⟨rfl, hb1⟩
      rw [hasD_T o.kind, FT]
      replace S := Lib.hid (S.out.step hb1)
      clear hb1 p0 p1 p2 p3 p4 p5 p6 p7
      obtain ⟨p0, p1, p2, p3, p4, p5, p6, p7⟩ := dcs HF.out.wf S.out.o
      have ck := S.out.k.cell (show #[Value.bool true][0]? = some (.bool true) from rfl)
      go_wp2_with (with_reducible refine slG 38 (.tmp 3) rfl ?_)
      refine Stop.mk (wlG (by rfl) _ _ rfl g 0 rfl _ S.out.r.all strOp (Deed.arr_size ⟨rfl, rfl⟩) ?_)
      go_wp2_with (with_reducible refine slG 38 (.tmp 1) rfl ?_)
      refine Stop.mk (wlG (by rfl) _ _ rfl w.heap.size 0 rfl _ S.out.o.all strOp (Deed.arr_size HF.out.wf) ?_)
      go_wp2_with (fail)
      refine (c_script_Same { dz with kind := o.kind, dev := o.dev, f := o.f, mask := o.mask } o ⟨q.A, q.n, none, 0⟩ q _ ⟨rfl, rfl⟩ HF.out.wf ⟨(HQ.out.below S.out.below).f, In.nil (by simp)⟩ (HQ.out.below S.out.below)).mono ?_
      rintro e w3 ⟨rfl, hb3⟩
      go_wp2_with (fail)
      go_ret
      exact RetV.bool HK.out.symm (S.out.below.trans (hb3.mono S.out.below.size))
set_option maxHeartbeats 40000000 in
set_option maxRecDepth 10000 in
theorem script_Check_Fa2 (o : Deed) (q : Where) (w : World) (ho : o.fit) (hq : o.at_ w q) (hk : o.kind = 3) (h0 : 0 ≤ o.dev) (h1 : o.dev ≤ 5) (g0 : check o.f = 0) (g1 : ¬ o.mask < 512) : Calls Tryd.prog 8 #[.agg (o.arr q)] w (RetV w (.bool o.ok)) := by
  have k1 : 1 ≤ o.kind := by omega
  have k2 : o.kind ≤ 12 := by omega
  have FE : dE o.kind = false := by unfold dE; simp; omega
  have FN : dN o.kind = false := by unfold dN; simp; omega
  have FD : dD o.kind = true := by unfold dD; simp; omega
  have FF : dF o.kind = true := by unfold dF; simp; omega
  have FW : dW o.kind = false := by unfold dW; simp; omega
  have FK : dK o.kind = false := by unfold dK; simp; omega
  have FT : dT o.kind = false := by unfold dT; simp; omega
  have t1 : decide (0 ≤ o.dev) = true := by simp; omega
  have t1' : decide (o.dev < 0) = false := by simp; omega
  have t2 : decide (o.dev < 6) = true := by simp; omega
  have t2' : decide (6 ≤ o.dev) = false := by simp; omega
  have u1 : (check o.f == 0) = true := by simpa using g0
  have u2 : decide (o.mask ≤ 511) = false := by simp; omega
  have HK := Lib.hid (show o.ok = false by rw [ok_F hk, decide_eq_true (show 0 ≤ o.dev ∧ o.dev ≤ 5 from ⟨h0, h1⟩), decide_eq_false (show ¬ (check o.f = 0 ∧ o.mask < 512) from fun e => by exact g1 e.2)]; first | rfl | simp)
  clear h0 g0 h1 g1
  have B0 := Lib.hid (At.new w 38 (o.arr q))
  obtain ⟨W0, hW0⟩ : ∃ W, W = w.alloc (.cells (o.arr q) 38) := ⟨_, rfl⟩
  have HW0 := Lib.hid hW0
  rw [← hW0] at B0
  have HF := Lib.hid ho
  have HQ := Lib.hid hq
  have d1 : decide (1 ≤ o.kind) = true := by simp; omega
  have d2 : decide (o.kind ≤ 12) = true := by simp; omega
  have d1' : decide (o.kind < 1) = false := by simp; omega
  have d2' : decide (12 < o.kind) = false := by simp; omega
  obtain ⟨q0, q1, q2, q3, q4, q5, q6, q7⟩ := dcs ho.wf B0.out.2
  rw [hW0] at q0
  obtain ⟨R, hR⟩ : ∃ R : Deed, R = { dz with kind := o.kind } := ⟨_, rfl⟩
  have hRw : R.wf := by rw [hR]; exact ⟨rfl, rfl⟩
  obtain ⟨Z, hZ⟩ : ∃ Z, Z = Deed.arr dz wz := ⟨_, rfl⟩
  obtain ⟨F, hF⟩ : ∃ F, F = R.arr wz := ⟨_, rfl⟩
  have hZ63 : Z.size = 63 := by rw [hZ]; exact Deed.arr_size dz_wf
  have hF63 : F.size = 63 := by rw [hF]; exact Deed.arr_size hRw
  have hF1 : (F.all fun x => x.oneCell') = true := by rw [hF]; exact Deed.arr_ones hRw
  have HFe := Lib.hid ((show F = Deed.arr { dz with kind := o.kind } wz by rw [hF, hR]).trans (dz_arr o.kind))
  have HZe := Lib.hid (hZ.trans dz_arr0)
  have HFr := Lib.hid hF
  have HR := Lib.hid hR
  clear ho hq hk hW0 hR hZ hF k1 k2
  go_enter Tryd.func8, Tryd.ntmps8
  go_wp2_with (fail)
  rw [← HW0.out]
  refine wp_region_relM (VV [some (.pointer (some ⟨w.heap.size, 0, none⟩)), some (.int .i64 o.kind), some (.agg F), some (.pointer (some ⟨w.heap.size, 0, none⟩)), some (.int .i64 o.kind), some (.bool true), some (.bool true), some (.pointer (some ⟨w.heap.size, 0, none⟩)), some (.int .i64 o.kind), some (.bool true), some (.bool true)]) (CkM W0 Z F true) 143 (by kernel_rfl) (by kernel_rfl) rfl ?_ ?_ ?_
  · intro u w' hb _
    exact ⟨hb, Bx.start rfl rfl, Bx.start rfl rfl⟩
  · refine ⟨?_, ?_, ?_, ?_, ?_, ?_, ?_, ?_, ?_, ?_, ?_, ?_, ?_, ?_, ?_, trivial⟩
    all_goals
      rintro L u W1 ⟨hB, hX, hY⟩ hL hd
      have X := Lib.hid hX
      have Y := Lib.hid hY
      have B := Lib.hid hB
      clear hX hY hB
      have BO := Lib.hid (B0.out.2.below B.out B0.out.2.lt)
      obtain ⟨p0, p1, p2, p3, p4, p5, p6, p7⟩ := dcs HF.out.wf BO.out
      have hz0 := BO.out.lt
      clear p1 p2 p3 p4 p5 p6 p7
      simp [DepsM, Region.binds, VV] at hd
      simp only [putDeps, dstOf, Region.binds]
    case refine_1 =>
      go_wp2_with (fail)
      exact EndM.mk rfl ⟨rfl, ckIdle B.out X.out Y.out (by decide)⟩
    case refine_2 =>
      go_wp2_with (fail)
      exact EndM.mk rfl ⟨rfl, ckIdle B.out X.out Y.out (by decide)⟩
    case refine_3 =>
      go_wp2_with (fail)
      exact EndM.mk rfl ⟨by show _ = Value.agg F; rw [HFe.out]; rfl, B.out, X.out.pure (by decide) (by decide) (Below.refl _ _), Y.out.pure (by decide) (by decide) (Below.refl _ _)⟩
    case refine_4 =>
      go_wp2_with (fail)
      exact EndM.mk rfl ⟨rfl, ckIdle B.out X.out Y.out (by decide)⟩
    case refine_5 =>
      go_wp2_with (fail)
      exact EndM.mk rfl ⟨rfl, ckIdle B.out X.out Y.out (by decide)⟩
    case refine_6 =>
      go_wp2_with (fail)
      exact EndM.mk rfl ⟨rfl, ckIdle B.out X.out Y.out (by decide)⟩
    case refine_7 =>
      go_wp2_with (fail)
      exact EndM.mk rfl ⟨rfl, ckIdle B.out X.out Y.out (by decide)⟩
    case refine_8 =>
      go_wp2_with (fail)
      exact EndM.mk rfl ⟨rfl, ckIdle B.out X.out Y.out (by decide)⟩
    case refine_9 =>
      go_wp2_with (fail)
      exact EndM.mk rfl ⟨rfl, ckIdle B.out X.out Y.out (by decide)⟩
    case refine_10 =>
      go_wp2_with (fail)
      exact EndM.mk rfl ⟨rfl, ckIdle B.out X.out Y.out (by decide)⟩
    case refine_11 =>
      go_wp2_with (fail)
      exact EndM.mk rfl ⟨rfl, ckIdle B.out X.out Y.out (by decide)⟩
    case refine_12 =>
      go_wp2_with (fail)
      refine EndM.mk rfl ⟨trivial, B.out.alloc B.out.size _, ?_, Y.out.pure (by decide) (by decide) ((Below.refl _ _).alloc (Nat.le_refl _) _)⟩
      have := X.out.make hL (by decide) B.out.size 38
      rw [HZe.out] at this ⊢
      exact this
    case refine_13 =>
      go_wp2_with (fail)
      exact EndM.mk rfl ⟨trivial, B.out.alloc B.out.size _, X.out.pure (by decide) (by decide) ((Below.refl _ _).alloc (Nat.le_refl _) _), Y.out.make hL (by decide) B.out.size 4⟩
    case refine_14 =>
      obtain ⟨l11, ⟨-, e2⟩, -⟩ := hd
      obtain ⟨g, e11, hg, hbk⟩ := X.out.at l11 hL
      simp only [e11, e2]
      go_wp2_with (with_reducible refine stS 38 (.tmp 3) (.tmp 8) rfl rfl ?_)
      refine Stop.mk (wsB rfl _ _ _ rfl g _ rfl rfl _ hbk strOp hF63 (by rw [hZ63, hF63]) hF1 ?_)
      intro w2 hb2 hk2
      go_wp2_with (fail)
      exact EndM.mk0 rfl ⟨trivial, B.out.trans (hk2.oneB B.out.size hg), X.out.fill l11 (by decide) e11 hg hb2, Y.out.far (by decide) (by decide) hbk (by rw [hZ63]; decide) (by rw [hZ63]; decide) hk2⟩
    case refine_15 =>
      obtain ⟨l12, ⟨-, e10⟩, -⟩ := hd
      obtain ⟨g, e12, hg, hbk⟩ := Y.out.at l12 hL
      simp only [e12, e10]
      have c0 := hbk.cell (show #[Value.bool false][0]? = some (.bool false) from rfl)
      have ff := hbk.frozen 0
      have hlt := hbk.lt
      go_wp2_with (fail)
      exact EndM.mk0 rfl ⟨trivial, B.out.trans ((kept_set _ _ _ _).oneB B.out.size hg), X.out.far (by decide) (by decide) hbk (by rw [hZ63]; decide) (by rw [hF63]; decide) (kept_set _ _ _ _), Y.out.fill l12 (by decide) e12 hg (hbk.store 0 _)⟩
  · rintro u W1 hv ⟨hB, hX, hY⟩
    obtain ⟨g, e11, hg, hbg⟩ := hX.done (by decide) (by decide)
    obtain ⟨h, e12, hh, hbh⟩ := hY.done (by decide) (by decide)
    have hsz := B0.out.2.lt
    have S := Lib.hid (show SC w W1 o R q wz g h true from ⟨B0.out.1.trans (hB.mono B0.out.1.size), B0.out.2.below hB B0.out.2.lt, HFr.out ▸ hbg, hbh, by omega, by omega, fun e => by subst e; have := congrArg Array.size (Blk.inj hbg hbh); rw [hF63] at this; simp at this⟩)
    clear hv hX hY hB hbg hbh hg hh hsz
    simp only [putAll, Act.put, Nat.reduceAdd, List.setIfInBounds_toArray, List.set_cons_zero, List.set_cons_succ]
    rw [e11, e12]
    clear e11 e12 HW0 B0
    have hmf : ∀ (fn : Fn) (first cap : Array Value) (w : World), (Instr.makeFunc fn first cap).run Tryd.prog w = .ok (.func fn first cap) w := fun _ _ _ _ => rfl
    obtain ⟨p0, p1, p2, p3, p4, p5, p6, p7⟩ := dcs HF.out.wf S.out.o
    go_wp2_with (fail)
    refine (csh o.kind 1 _).mono ?_
    rintro e w1 ⟨rfl, hb1⟩
    rw [hasD_E o.kind, FE]
    replace S := Lib.hid (S.out.step hb1)
    clear hb1 p0 p1 p2 p3 p4 p5 p6 p7
    obtain ⟨p0, p1, p2, p3, p4, p5, p6, p7⟩ := dcs HF.out.wf S.out.o
    go_wp2_with (fail)
    refine (csh o.kind 2 _).mono ?_
    rintro e w1 ⟨rfl, hb1⟩
    rw [hasD_N o.kind, FN]
    replace S := Lib.hid (S.out.step hb1)
    clear hb1 p0 p1 p2 p3 p4 p5 p6 p7
    obtain ⟨p0, p1, p2, p3, p4, p5, p6, p7⟩ := dcs HF.out.wf S.out.o
    go_wp2_with (fail)
    refine (csh o.kind 4 _).mono ?_
    rintro e w1 ⟨rfl, hb1⟩
    rw [hasD_D o.kind, FD]
    replace S := Lib.hid (S.out.step hb1)
    clear hb1 p0 p1 p2 p3 p4 p5 p6 p7
    obtain ⟨p0, p1, p2, p3, p4, p5, p6, p7⟩ := dcs HF.out.wf S.out.o
    have s9 := S.out.r.cell (Deed.getI 2 (by omega))
    have sf := fun i => S.out.r.frozen i
    have slt := S.out.r.lt
    have S2 := Lib.hid (S.out.set (r' := { dz with kind := o.kind, dev := o.dev }) (s' := wz) 2 (.int .i64 o.dev) (by rw [HR.out]; have := Deed.setI (o := { dz with kind := o.kind }) (q := wz) ⟨rfl, rfl⟩ 2 (by omega) o.dev; simpa using this))
    obtain ⟨r0, r1, r2, r3, r4, r5, r6, r7⟩ := dcs HF.out.wf S2.out.o
    go_wp2_with (fail)
    replace S := S2
    clear s9 sf slt S2 r0 r1 r2 r3 r4 r5 r6 r7
    refine (c_script_Check1 true true h _ S.out.k).mono ?_
    rintro e w2 ⟨rfl, hbk, hkk⟩
    replace S := Lib.hid (S.out.also hkk hbk)
    clear hbk hkk p0 p1 p2 p3 p4 p5 p6 p7
    obtain ⟨p0, p1, p2, p3, p4, p5, p6, p7⟩ := dcs HF.out.wf S.out.o
    go_wp2_with (fail)
    refine (csh o.kind 8 _).mono ?_
    rintro e w1 ⟨rfl, hb1⟩
    rw [hasD_F o.kind, FF]
    replace S := Lib.hid (S.out.step hb1)
    clear hb1 p0 p1 p2 p3 p4 p5 p6 p7
    obtain ⟨p0, p1, p2, p3, p4, p5, p6, p7⟩ := dcs HF.out.wf S.out.o
    go_wp2_with (fail)
    refine wp_region_relM (VV [some (.pointer (some ⟨w.heap.size, 33, none⟩)), some (.slice q.A o.f.length q.n), some (.pointer (some ⟨w.heap.size, 34, none⟩)), some (.int .u32 o.mask), some (.pointer (some ⟨g, 33, none⟩)), none, some (.pointer (some ⟨g, 34, none⟩)), none]) (FM w o q g h true) 143 (by kernel_rfl) (by kernel_rfl) rfl ?_ ?_ ?_
    · intro u w' hb hh
      exact FM.start (S.out.step hb)
    · refine ⟨?_, ?_, ?_, ?_, ?_, ?_, ?_, ?_, trivial⟩
      all_goals
        rintro L u W1 hM hL hd
        have M := Lib.hid hM
        clear hM
        clear p0 p1 p2 p3 p4 p5 p6 p7
        obtain ⟨p0, p1, p2, p3, p4, p5, p6, p7⟩ := dcs HF.out.wf M.out.o
        simp [DepsM, Region.binds, VV] at hd
        simp only [putDeps, dstOf, Region.binds]
      case refine_1 =>
        go_wp2_with (fail)
        exact EndM.mk rfl ⟨rfl, M.out.pure (by decide) (by decide)⟩
      case refine_2 =>
        go_wp2_with (fail)
        exact EndM.mk rfl ⟨rfl, M.out.pure (by decide) (by decide)⟩
      case refine_3 =>
        go_wp2_with (fail)
        exact EndM.mk rfl ⟨rfl, M.out.pure (by decide) (by decide)⟩
      case refine_4 =>
        go_wp2_with (fail)
        exact EndM.mk rfl ⟨rfl, M.out.pure (by decide) (by decide)⟩
      case refine_5 =>
        go_wp2_with (fail)
        exact EndM.mk rfl ⟨rfl, M.out.pure (by decide) (by decide)⟩
      case refine_6 =>
        have s9 := M.out.row.cell (Deed.getF (FR_wf _ _) 0 (by omega))
        have sf := fun i => M.out.row.frozen i
        have slt := M.out.row.lt
        go_wp2_with (fail)
        exact EndM.mk0 rfl ⟨trivial, FM.set5 M.out hL⟩
      case refine_7 =>
        go_wp2_with (fail)
        exact EndM.mk rfl ⟨rfl, M.out.pure (by decide) (by decide)⟩
      case refine_8 =>
        have s9 := M.out.row.cell (Deed.getF (FR_wf _ _) 1 (by omega))
        have sf := fun i => M.out.row.frozen i
        have slt := M.out.row.lt
        go_wp2_with (fail)
        exact EndM.mk0 rfl ⟨trivial, FM.set7 M.out hL⟩
    · rintro u W1 hv hM
      have S := Lib.hid (FM.done hM)
      clear hv hM p0 p1 p2 p3 p4 p5 p6 p7
      simp only [putAll, Act.put, Nat.reduceAdd, List.setIfInBounds_toArray, List.set_cons_zero, List.set_cons_succ]
      obtain ⟨p0, p1, p2, p3, p4, p5, p6, p7⟩ := dcs HF.out.wf S.out.o
      go_wp2_with (fail)
      refine (c_pred_Check o.f q.A q.n _ (HQ.out.below S.out.below).f (fun x hx => by have := HF.out.fs x hx; omega)).mono ?_
      rintro e w4 ⟨rfl, hb4⟩
      replace S := Lib.hid (S.out.step hb4)
      clear hb4 p0 p1 p2 p3 p4 p5 p6 p7
      obtain ⟨p0, p1, p2, p3, p4, p5, p6, p7⟩ := dcs HF.out.wf S.out.o
      go_wp2_with (fail)
      refine (c_mask_Check o.mask HF.out.m _).mono ?_
      rintro e w5 ⟨rfl, hb5⟩
      rw [u2]
      replace S := Lib.hid (S.out.step hb5)
      clear hb5 p0 p1 p2 p3 p4 p5 p6 p7
      obtain ⟨p0, p1, p2, p3, p4, p5, p6, p7⟩ := dcs HF.out.wf S.out.o
      go_wp2_with (fail)
      refine (c_script_Check1 false true h _ S.out.k).mono ?_
      rintro e w2 ⟨rfl, hbk, hkk⟩
      replace S := Lib.hid (S.out.also hkk hbk)
      clear hbk hkk p0 p1 p2 p3 p4 p5 p6 p7
      obtain ⟨p0, p1, p2, p3, p4, p5, p6, p7⟩ := dcs HF.out.wf S.out.o
      go_wp2_with (fail)
      refine (csh o.kind 16 _).mono ?_
      rintro e w1 ⟨rfl, hb1⟩
      rw [hasD_W o.kind, FW]
      replace S := Lib.hid (S.out.step hb1)
      clear hb1 p0 p1 p2 p3 p4 p5 p6 p7
      obtain ⟨p0, p1, p2, p3, p4, p5, p6, p7⟩ := dcs HF.out.wf S.out.o
      go_wp2_with (fail)
      refine (csh o.kind 32 _).mono ?_
      rintro e w1 ⟨rfl, hb1⟩
      rw [hasD_K o.kind, FK]
      replace S := Lib.hid (S.out.step hb1)
      clear hb1 p0 p1 p2 p3 p4 p5 p6 p7
      obtain ⟨p0, p1, p2, p3, p4, p5, p6, p7⟩ := dcs HF.out.wf S.out.o
      go_wp2_with (fail)
      refine (csh o.kind 64 _).mono ?_
      rintro e w1 ⟨rfl, hb1⟩
      rw [hasD_T o.kind, FT]
      replace S := Lib.hid (S.out.step hb1)
      clear hb1 p0 p1 p2 p3 p4 p5 p6 p7
      obtain ⟨p0, p1, p2, p3, p4, p5, p6, p7⟩ := dcs HF.out.wf S.out.o
      have ck := S.out.k.cell (show #[Value.bool false][0]? = some (.bool false) from rfl)
      go_wp2_with (fail)
      go_ret
      exact RetV.bool HK.out.symm S.out.below
set_option maxHeartbeats 40000000 in
set_option maxRecDepth 10000 in
theorem script_Check_Fa3 (o : Deed) (q : Where) (w : World) (ho : o.fit) (hq : o.at_ w q) (hk : o.kind = 3) (h0 : 0 ≤ o.dev) (h1 : o.dev ≤ 5) (g0 : ¬ check o.f = 0) : Calls Tryd.prog 8 #[.agg (o.arr q)] w (RetV w (.bool o.ok)) := by
  have k1 : 1 ≤ o.kind := by omega
  have k2 : o.kind ≤ 12 := by omega
  have FE : dE o.kind = false := by unfold dE; simp; omega
  have FN : dN o.kind = false := by unfold dN; simp; omega
  have FD : dD o.kind = true := by unfold dD; simp; omega
  have FF : dF o.kind = true := by unfold dF; simp; omega
  have FW : dW o.kind = false := by unfold dW; simp; omega
  have FK : dK o.kind = false := by unfold dK; simp; omega
  have FT : dT o.kind = false := by unfold dT; simp; omega
  have t1 : decide (0 ≤ o.dev) = true := by simp; omega
  have t1' : decide (o.dev < 0) = false := by simp; omega
  have t2 : decide (o.dev < 6) = true := by simp; omega
  have t2' : decide (6 ≤ o.dev) = false := by simp; omega
  have u1 : (check o.f == 0) = false := by simpa using g0
  have HK := Lib.hid (show o.ok = false by rw [ok_F hk, decide_eq_true (show 0 ≤ o.dev ∧ o.dev ≤ 5 from ⟨h0, h1⟩), decide_eq_false (show ¬ (check o.f = 0 ∧ o.mask < 512) from fun e => by exact g0 e.1)]; first | rfl | simp)
  clear h0 g0 h1
  have B0 := Lib.hid (At.new w 38 (o.arr q))
  obtain ⟨W0, hW0⟩ : ∃ W, W = w.alloc (.cells (o.arr q) 38) := ⟨_, rfl⟩
  have HW0 := Lib.hid hW0
  rw [← hW0] at B0
  have HF := Lib.hid ho
  have HQ := Lib.hid hq
  have d1 : decide (1 ≤ o.kind) = true := by simp; omega
  have d2 : decide (o.kind ≤ 12) = true := by simp; omega
  have d1' : decide (o.kind < 1) = false := by simp; omega
  have d2' : decide (12 < o.kind) = false := by simp; omega
  obtain ⟨q0, q1, q2, q3, q4, q5, q6, q7⟩ := dcs ho.wf B0.out.2
  rw [hW0] at q0
  obtain ⟨R, hR⟩ : ∃ R : Deed, R = { dz with kind := o.kind } := ⟨_, rfl⟩
  have hRw : R.wf := by rw [hR]; exact ⟨rfl, rfl⟩
  obtain ⟨Z, hZ⟩ : ∃ Z, Z = Deed.arr dz wz := ⟨_, rfl⟩
  obtain ⟨F, hF⟩ : ∃ F, F = R.arr wz := ⟨_, rfl⟩
  have hZ63 : Z.size = 63 := by rw [hZ]; exact Deed.arr_size dz_wf
  have hF63 : F.size = 63 := by rw [hF]; exact Deed.arr_size hRw
  have hF1 : (F.all fun x => x.oneCell') = true := by rw [hF]; exact Deed.arr_ones hRw
  have HFe := Lib.hid ((show F = Deed.arr { dz with kind := o.kind } wz by rw [hF, hR]).trans (dz_arr o.kind))
  have HZe := Lib.hid (hZ.trans dz_arr0)
  have HFr := Lib.hid hF
  have HR := Lib.hid hR
  clear ho hq hk hW0 hR hZ hF k1 k2
  go_enter Tryd.func8, Tryd.ntmps8
  go_wp2_with (fail)
  rw [← HW0.out]
  refine wp_region_relM (VV [some (.pointer (some ⟨w.heap.size, 0, none⟩)), some (.int .i64 o.kind), some (.agg F), some (.pointer (some ⟨w.heap.size, 0, none⟩)), some (.int .i64 o.kind), some (.bool true), some (.bool true), some (.pointer (some ⟨w.heap.size, 0, none⟩)), some (.int .i64 o.kind), some (.bool true), some (.bool true)]) (CkM W0 Z F true) 143 (by kernel_rfl) (by kernel_rfl) rfl ?_ ?_ ?_
  · intro u w' hb _
    exact ⟨hb, Bx.start rfl rfl, Bx.start rfl rfl⟩
  · refine ⟨?_, ?_, ?_, ?_, ?_, ?_, ?_, ?_, ?_, ?_, ?_, ?_, ?_, ?_, ?_, trivial⟩
    all_goals
      rintro L u W1 ⟨hB, hX, hY⟩ hL hd
      have X := Lib.hid hX
      have Y := Lib.hid hY
      have B := Lib.hid hB
      clear hX hY hB
      have BO := Lib.hid (B0.out.2.below B.out B0.out.2.lt)
      obtain ⟨p0, p1, p2, p3, p4, p5, p6, p7⟩ := dcs HF.out.wf BO.out
      have hz0 := BO.out.lt
      clear p1 p2 p3 p4 p5 p6 p7
      simp [DepsM, Region.binds, VV] at hd
      simp only [putDeps, dstOf, Region.binds]
    case refine_1 =>
      go_wp2_with (fail)
      exact EndM.mk rfl ⟨rfl, ckIdle B.out X.out Y.out (by decide)⟩
    case refine_2 =>
      go_wp2_with (fail)
      exact EndM.mk rfl ⟨rfl, ckIdle B.out X.out Y.out (by decide)⟩
    case refine_3 =>
      go_wp2_with (fail)
      exact EndM.mk rfl ⟨by show _ = Value.agg F; rw [HFe.out]; rfl, B.out, X.out.pure (by decide) (by decide) (Below.refl _ _), Y.out.pure (by decide) (by decide) (Below.refl _ _)⟩
    case refine_4 =>
      go_wp2_with (fail)
      exact EndM.mk rfl ⟨rfl, ckIdle B.out X.out Y.out (by decide)⟩
    case refine_5 =>
      go_wp2_with (fail)
      exact EndM.mk rfl ⟨rfl, ckIdle B.out X.out Y.out (by decide)⟩
    case refine_6 =>
      go_wp2_with (fail)
      exact EndM.mk rfl ⟨rfl, ckIdle B.out X.out Y.out (by decide)⟩
    case refine_7 =>
      go_wp2_with (fail)
      exact EndM.mk rfl ⟨rfl, ckIdle B.out X.out Y.out (by decide)⟩
    case refine_8 =>
      go_wp2_with (fail)
      exact EndM.mk rfl ⟨rfl, ckIdle B.out X.out Y.out (by decide)⟩
    case refine_9 =>
      go_wp2_with (fail)
      exact EndM.mk rfl ⟨rfl, ckIdle B.out X.out Y.out (by decide)⟩
    case refine_10 =>
      go_wp2_with (fail)
      exact EndM.mk rfl ⟨rfl, ckIdle B.out X.out Y.out (by decide)⟩
    case refine_11 =>
      go_wp2_with (fail)
      exact EndM.mk rfl ⟨rfl, ckIdle B.out X.out Y.out (by decide)⟩
    case refine_12 =>
      go_wp2_with (fail)
      refine EndM.mk rfl ⟨trivial, B.out.alloc B.out.size _, ?_, Y.out.pure (by decide) (by decide) ((Below.refl _ _).alloc (Nat.le_refl _) _)⟩
      have := X.out.make hL (by decide) B.out.size 38
      rw [HZe.out] at this ⊢
      exact this
    case refine_13 =>
      go_wp2_with (fail)
      exact EndM.mk rfl ⟨trivial, B.out.alloc B.out.size _, X.out.pure (by decide) (by decide) ((Below.refl _ _).alloc (Nat.le_refl _) _), Y.out.make hL (by decide) B.out.size 4⟩
    case refine_14 =>
      obtain ⟨l11, ⟨-, e2⟩, -⟩ := hd
      obtain ⟨g, e11, hg, hbk⟩ := X.out.at l11 hL
      simp only [e11, e2]
      go_wp2_with (with_reducible refine stS 38 (.tmp 3) (.tmp 8) rfl rfl ?_)
      refine Stop.mk (wsB rfl _ _ _ rfl g _ rfl rfl _ hbk strOp hF63 (by rw [hZ63, hF63]) hF1 ?_)
      intro w2 hb2 hk2
      go_wp2_with (fail)
      exact EndM.mk0 rfl ⟨trivial, B.out.trans (hk2.oneB B.out.size hg), X.out.fill l11 (by decide) e11 hg hb2, Y.out.far (by decide) (by decide) hbk (by rw [hZ63]; decide) (by rw [hZ63]; decide) hk2⟩
    case refine_15 =>
      obtain ⟨l12, ⟨-, e10⟩, -⟩ := hd
      obtain ⟨g, e12, hg, hbk⟩ := Y.out.at l12 hL
      simp only [e12, e10]
      have c0 := hbk.cell (show #[Value.bool false][0]? = some (.bool false) from rfl)
      have ff := hbk.frozen 0
      have hlt := hbk.lt
      go_wp2_with (fail)
      exact EndM.mk0 rfl ⟨trivial, B.out.trans ((kept_set _ _ _ _).oneB B.out.size hg), X.out.far (by decide) (by decide) hbk (by rw [hZ63]; decide) (by rw [hF63]; decide) (kept_set _ _ _ _), Y.out.fill l12 (by decide) e12 hg (hbk.store 0 _)⟩
  · rintro u W1 hv ⟨hB, hX, hY⟩
    obtain ⟨g, e11, hg, hbg⟩ := hX.done (by decide) (by decide)
    obtain ⟨h, e12, hh, hbh⟩ := hY.done (by decide) (by decide)
    have hsz := B0.out.2.lt
    have S := Lib.hid (show SC w W1 o R q wz g h true from ⟨B0.out.1.trans (hB.mono B0.out.1.size), B0.out.2.below hB B0.out.2.lt, HFr.out ▸ hbg, hbh, by omega, by omega, fun e => by subst e; have := congrArg Array.size (Blk.inj hbg hbh); rw [hF63] at this; simp at this⟩)
    clear hv hX hY hB hbg hbh hg hh hsz
    simp only [putAll, Act.put, Nat.reduceAdd, List.setIfInBounds_toArray, List.set_cons_zero, List.set_cons_succ]
    rw [e11, e12]
    clear e11 e12 HW0 B0
    have hmf : ∀ (fn : Fn) (first cap : Array Value) (w : World), (Instr.makeFunc fn first cap).run Tryd.prog w = .ok (.func fn first cap) w := fun _ _ _ _ => rfl
    obtain ⟨p0, p1, p2, p3, p4, p5, p6, p7⟩ := dcs HF.out.wf S.out.o
    go_wp2_with (fail)
    refine (csh o.kind 1 _).mono ?_
    rintro e w1 ⟨rfl, hb1⟩
    rw [hasD_E o.kind, FE]
    replace S := Lib.hid (S.out.step hb1)
    clear hb1 p0 p1 p2 p3 p4 p5 p6 p7
    obtain ⟨p0, p1, p2, p3, p4, p5, p6, p7⟩ := dcs HF.out.wf S.out.o
    go_wp2_with (fail)
    refine (csh o.kind 2 _).mono ?_
    rintro e w1 ⟨rfl, hb1⟩
    rw [hasD_N o.kind, FN]
    replace S := Lib.hid (S.out.step hb1)
    clear hb1 p0 p1 p2 p3 p4 p5 p6 p7
    obtain ⟨p0, p1, p2, p3, p4, p5, p6, p7⟩ := dcs HF.out.wf S.out.o
    go_wp2_with (fail)
    refine (csh o.kind 4 _).mono ?_
    rintro e w1 ⟨rfl, hb1⟩
    rw [hasD_D o.kind, FD]
    replace S := Lib.hid (S.out.step hb1)
    clear hb1 p0 p1 p2 p3 p4 p5 p6 p7
    obtain ⟨p0, p1, p2, p3, p4, p5, p6, p7⟩ := dcs HF.out.wf S.out.o
    have s9 := S.out.r.cell (Deed.getI 2 (by omega))
    have sf := fun i => S.out.r.frozen i
    have slt := S.out.r.lt
    have S2 := Lib.hid (S.out.set (r' := { dz with kind := o.kind, dev := o.dev }) (s' := wz) 2 (.int .i64 o.dev) (by rw [HR.out]; have := Deed.setI (o := { dz with kind := o.kind }) (q := wz) ⟨rfl, rfl⟩ 2 (by omega) o.dev; simpa using this))
    obtain ⟨r0, r1, r2, r3, r4, r5, r6, r7⟩ := dcs HF.out.wf S2.out.o
    go_wp2_with (fail)
    replace S := S2
    clear s9 sf slt S2 r0 r1 r2 r3 r4 r5 r6 r7
    refine (c_script_Check1 true true h _ S.out.k).mono ?_
    rintro e w2 ⟨rfl, hbk, hkk⟩
    replace S := Lib.hid (S.out.also hkk hbk)
    clear hbk hkk p0 p1 p2 p3 p4 p5 p6 p7
    obtain ⟨p0, p1, p2, p3, p4, p5, p6, p7⟩ := dcs HF.out.wf S.out.o
    go_wp2_with (fail)
    refine (csh o.kind 8 _).mono ?_
    rintro e w1 ⟨rfl, hb1⟩
    rw [hasD_F o.kind, FF]
    replace S := Lib.hid (S.out.step hb1)
    clear hb1 p0 p1 p2 p3 p4 p5 p6 p7
    obtain ⟨p0, p1, p2, p3, p4, p5, p6, p7⟩ := dcs HF.out.wf S.out.o
    go_wp2_with (fail)
    refine wp_region_relM (VV [some (.pointer (some ⟨w.heap.size, 33, none⟩)), some (.slice q.A o.f.length q.n), some (.pointer (some ⟨w.heap.size, 34, none⟩)), some (.int .u32 o.mask), some (.pointer (some ⟨g, 33, none⟩)), none, some (.pointer (some ⟨g, 34, none⟩)), none]) (FM w o q g h true) 143 (by kernel_rfl) (by kernel_rfl) rfl ?_ ?_ ?_
    · intro u w' hb hh
      exact FM.start (S.out.step hb)
    · refine ⟨?_, ?_, ?_, ?_, ?_, ?_, ?_, ?_, trivial⟩
      all_goals
        rintro L u W1 hM hL hd
        have M := Lib.hid hM
        clear hM
        clear p0 p1 p2 p3 p4 p5 p6 p7
        obtain ⟨p0, p1, p2, p3, p4, p5, p6, p7⟩ := dcs HF.out.wf M.out.o
        simp [DepsM, Region.binds, VV] at hd
        simp only [putDeps, dstOf, Region.binds]
      case refine_1 =>
        go_wp2_with (fail)
        exact EndM.mk rfl ⟨rfl, M.out.pure (by decide) (by decide)⟩
      case refine_2 =>
        go_wp2_with (fail)
        exact EndM.mk rfl ⟨rfl, M.out.pure (by decide) (by decide)⟩
      case refine_3 =>
        go_wp2_with (fail)
        exact EndM.mk rfl ⟨rfl, M.out.pure (by decide) (by decide)⟩
      case refine_4 =>
        go_wp2_with (fail)
        exact EndM.mk rfl ⟨rfl, M.out.pure (by decide) (by decide)⟩
      case refine_5 =>
        go_wp2_with (fail)
        exact EndM.mk rfl ⟨rfl, M.out.pure (by decide) (by decide)⟩
      case refine_6 =>
        have s9 := M.out.row.cell (Deed.getF (FR_wf _ _) 0 (by omega))
        have sf := fun i => M.out.row.frozen i
        have slt := M.out.row.lt
        go_wp2_with (fail)
        exact EndM.mk0 rfl ⟨trivial, FM.set5 M.out hL⟩
      case refine_7 =>
        go_wp2_with (fail)
        exact EndM.mk rfl ⟨rfl, M.out.pure (by decide) (by decide)⟩
      case refine_8 =>
        have s9 := M.out.row.cell (Deed.getF (FR_wf _ _) 1 (by omega))
        have sf := fun i => M.out.row.frozen i
        have slt := M.out.row.lt
        go_wp2_with (fail)
        exact EndM.mk0 rfl ⟨trivial, FM.set7 M.out hL⟩
    · rintro u W1 hv hM
      have S := Lib.hid (FM.done hM)
      clear hv hM p0 p1 p2 p3 p4 p5 p6 p7
      simp only [putAll, Act.put, Nat.reduceAdd, List.setIfInBounds_toArray, List.set_cons_zero, List.set_cons_succ]
      obtain ⟨p0, p1, p2, p3, p4, p5, p6, p7⟩ := dcs HF.out.wf S.out.o
      go_wp2_with (fail)
      refine (c_pred_Check o.f q.A q.n _ (HQ.out.below S.out.below).f (fun x hx => by have := HF.out.fs x hx; omega)).mono ?_
      rintro e w4 ⟨rfl, hb4⟩
      replace S := Lib.hid (S.out.step hb4)
      clear hb4 p0 p1 p2 p3 p4 p5 p6 p7
      obtain ⟨p0, p1, p2, p3, p4, p5, p6, p7⟩ := dcs HF.out.wf S.out.o
      go_wp2_with (fail)
      refine (c_script_Check1 false true h _ S.out.k).mono ?_
      rintro e w2 ⟨rfl, hbk, hkk⟩
      replace S := Lib.hid (S.out.also hkk hbk)
      clear hbk hkk p0 p1 p2 p3 p4 p5 p6 p7
      obtain ⟨p0, p1, p2, p3, p4, p5, p6, p7⟩ := dcs HF.out.wf S.out.o
      go_wp2_with (fail)
      refine (csh o.kind 16 _).mono ?_
      rintro e w1 ⟨rfl, hb1⟩
      rw [hasD_W o.kind, FW]
      replace S := Lib.hid (S.out.step hb1)
      clear hb1 p0 p1 p2 p3 p4 p5 p6 p7
      obtain ⟨p0, p1, p2, p3, p4, p5, p6, p7⟩ := dcs HF.out.wf S.out.o
      go_wp2_with (fail)
      refine (csh o.kind 32 _).mono ?_
      rintro e w1 ⟨rfl, hb1⟩
      rw [hasD_K o.kind, FK]
      replace S := Lib.hid (S.out.step hb1)
      clear hb1 p0 p1 p2 p3 p4 p5 p6 p7
      obtain ⟨p0, p1, p2, p3, p4, p5, p6, p7⟩ := dcs HF.out.wf S.out.o
      go_wp2_with (fail)
      refine (csh o.kind 64 _).mono ?_
      rintro e w1 ⟨rfl, hb1⟩
      rw [hasD_T o.kind, FT]
      replace S := Lib.hid (S.out.step hb1)
      clear hb1 p0 p1 p2 p3 p4 p5 p6 p7
      obtain ⟨p0, p1, p2, p3, p4, p5, p6, p7⟩ := dcs HF.out.wf S.out.o
      have ck := S.out.k.cell (show #[Value.bool false][0]? = some (.bool false) from rfl)
      go_wp2_with (fail)
      go_ret
      exact RetV.bool HK.out.symm S.out.below
end Go.Proofs.YtiedkcijjfmhaaaDoor
