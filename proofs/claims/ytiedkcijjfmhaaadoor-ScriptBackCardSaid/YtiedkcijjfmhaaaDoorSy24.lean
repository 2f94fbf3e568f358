/-
  The walk of script.Check, a class of kinds. (Printed by gen47d.py.)
-/
import Derived.Test.YtiedkcijjfmhaaaDoorSy18
namespace Go.Proofs.YtiedkcijjfmhaaaDoor
open Go.RowKit

theorem ok_out {o : Deed} (hk : ¬ (1 ≤ o.kind ∧ o.kind ≤ 12)) : o.ok = false := by
  unfold Deed.ok Deed.may
  rw [decide_eq_false hk]
  rfl
set_option maxHeartbeats 40000000 in
set_option maxRecDepth 10000 in
theorem script_Check_lo (o : Deed) (q : Where) (w : World) (ho : o.fit) (hq : o.at_ w q) (hk : o.kind < 1) : Calls Tryd.prog 8 #[.agg (o.arr q)] w (RetV w (.bool o.ok)) := by
  obtain ⟨FE, FN, FD, FF, FW, FK, FT⟩ : dE o.kind = false ∧ dN o.kind = false ∧ dD o.kind = false ∧ dF o.kind = false ∧ dW o.kind = false ∧ dK o.kind = false ∧ dT o.kind = false := by simp [dE, dN, dD, dF, dW, dK, dT]; omega
  have HK := lh (ok_out (o := o) (by omega))
  have B0 := lh (At.new w 38 (o.arr q))
  obtain ⟨W0, hW0⟩ : ∃ W, W = w.alloc (.cells (o.arr q) 38) := ⟨_, rfl⟩
  have HW0 := lh hW0
  rw [← hW0] at B0
  have HF := lh ho
  have HQ := lh hq
  have d1 : decide (1 ≤ o.kind) = false := by simp; omega
  have d2 : decide (o.kind ≤ 12) = true := by simp; omega
  have d1' : decide (o.kind < 1) = true := by simp; omega
  have d2' : decide (12 < o.kind) = false := by simp; omega
  obtain ⟨q0, q1, q2, q3, q4, q5, q6, q7⟩ := dcs ho.wf B0.out.2
  rw [hW0] at q0
  obtain ⟨R, hR⟩ : ∃ R : Deed, R = { dz with kind := o.kind } := ⟨_, rfl⟩
  have hRw : R.wf := by rw [hR]; exact ⟨rfl, rfl⟩
  obtain ⟨Z, hZ⟩ : ∃ Z, Z = Deed.arr dz wz := ⟨_, rfl⟩
  obtain ⟨F, hF⟩ : ∃ F, F = R.arr wz := ⟨_, rfl⟩
  have hZ63 : Z.size = 63 := by rw [hZ]; exact Deed.arr_size dz_wf
  have hF63 : F.size = 63 := by rw [hF]; exact Deed.arr_size hRw
  have hF1 : (F.all fun x => x.oneCell') = true := by rw [hF]; exact Deed.arr_ones hRw
  have HFe := lh ((show F = Deed.arr { dz with kind := o.kind } wz by rw [hF, hR]).trans (dz_arr o.kind))
  have HZe := lh (hZ.trans dz_arr0)
  have HFr := lh hF
  have HR := lh hR
  clear ho hq hk hW0 hR hZ hF
  go_enter Tryd.func8, Tryd.ntmps8
  go_wp2_with (fail)
  rw [← HW0.out]
  refine wp_region_relM (VV [some (.pointer (some ⟨w.heap.size, 0, none⟩)), some (.int .i64 o.kind), some (.agg F), some (.pointer (some ⟨w.heap.size, 0, none⟩)), some (.int .i64 o.kind), some (.bool false), some (.bool false), some (.tuple #[]), some (.tuple #[]), some (.tuple #[]), some (.bool false)]) (CkM W0 Z F false) 143 (by kernel_rfl) (by kernel_rfl) rfl ?_ ?_ ?_
  · intro u w' hb _
    exact ⟨hb, Bx.start rfl rfl, Bx.start rfl rfl⟩
  · refine ⟨?_, ?_, ?_, ?_, ?_, ?_, ?_, ?_, ?_, ?_, ?_, ?_, ?_, ?_, ?_, trivial⟩
    all_goals
      rintro L u W1 ⟨hB, hX, hY⟩ hL hd
      have X := lh hX
      have Y := lh hY
      have B := lh hB
      clear hX hY hB
      have BO := lh (B0.out.2.below B.out B0.out.2.lt)
      obtain ⟨p0, p1, p2, p3, p4, p5, p6, p7⟩ := dcs HF.out.wf BO.out
      have hz0 := BO.out.lt
      clear p1 p2 p3 p4 p5 p6 p7
      simp [DepsM, Region.binds, VV] at hd
      simp only [putDeps, dstOf, Region.binds]
    case refine_1 | refine_2 | refine_4 | refine_5 | refine_6 | refine_7 | refine_8 | refine_9 | refine_10 | refine_11 =>
      go_wp2_with (fail)
      exact EndM.mk rfl ⟨rfl, ckIdle B.out X.out Y.out (by decide)⟩
    case refine_3 =>
      go_wp2_with (fail)
      exact EndM.mk rfl ⟨by show _ = Value.agg F; rw [HFe.out]; rfl, B.out, X.out.pure (by decide) (by decide) (Below.refl _ _), Y.out.pure (by decide) (by decide) (Below.refl _ _)⟩
    case refine_12 =>
      go_wp2_with (fail)
      refine EndM.mk rfl ⟨trivial, B.out.alloc B.out.size _, ?_, Y.out.pure (by decide) (by decide) ((Below.refl _ _).alloc (Nat.le_refl _) _)⟩
      have := X.out.make hL (by decide) B.out.size 38
      rw [HZe.out] at this ⊢
      exact this
    case refine_13 =>
      go_wp2_with (fail)
      exact EndM.mk rfl ⟨trivial, B.out.alloc B.out.size _, X.out.pure (by decide) (by decide) ((Below.refl _ _).alloc (Nat.le_refl _) _), Y.out.make hL (by decide) B.out.size 4⟩
    case refine_14 =>
      obtain ⟨l11, ⟨-, e2⟩, -⟩ := hd
      obtain ⟨g, e11, hg, hbk⟩ := X.out.at l11 hL
      simp only [e11, e2]
      go_wp2_with (with_reducible refine stS 38 (.tmp 3) (.tmp 8) rfl rfl ?_)
      refine Stop.mk (wsB rfl _ _ _ rfl g _ rfl rfl _ hbk strOp hF63 (by rw [hZ63, hF63]) hF1 ?_)
      intro w2 hb2 hk2
      go_wp2_with (fail)
      exact EndM.mk0 rfl ⟨trivial, B.out.trans (hk2.oneB B.out.size hg), X.out.fill l11 (by decide) e11 hg hb2, Y.out.far (by decide) (by decide) hbk (by rw [hZ63]; decide) (by rw [hZ63]; decide) hk2⟩
    case refine_15 =>
      obtain ⟨l12, ⟨-, e10⟩, -⟩ := hd
      obtain ⟨g, e12, hg, hbk⟩ := Y.out.at l12 hL
      simp only [e12, e10]
      have c0 := hbk.cell (show #[Value.bool false][0]? = some (.bool false) from rfl)
      have ff := hbk.frozen 0
      have hlt := hbk.lt
      go_wp2_with (fail)
      exact EndM.mk0 rfl ⟨trivial, B.out.trans ((kept_set _ _ _ _).oneB B.out.size hg), X.out.far (by decide) (by decide) hbk (by rw [hZ63]; decide) (by rw [hF63]; decide) (kept_set _ _ _ _), Y.out.fill l12 (by decide) e12 hg (hbk.store 0 _)⟩
  · rintro u W1 hv ⟨hB, hX, hY⟩
    obtain ⟨g, e11, hg, hbg⟩ := hX.done (by decide) (by decide)
    obtain ⟨h, e12, hh, hbh⟩ := hY.done (by decide) (by decide)
    have hsz := B0.out.2.lt
    have S := lh (show SC w W1 o R q wz g h false from ⟨B0.out.1.trans (hB.mono B0.out.1.size), B0.out.2.below hB B0.out.2.lt, HFr.out ▸ hbg, hbh, by omega, by omega, fun e => by subst e; have := congrArg Array.size (Blk.inj hbg hbh); rw [hF63] at this; simp at this⟩)
    clear hv hX hY hB hbg hbh hg hh hsz
    simp only [putAll, Act.put, Nat.reduceAdd, List.setIfInBounds_toArray, List.set_cons_zero, List.set_cons_succ]
    rw [e11, e12]
    clear e11 e12 HW0 B0
    have hmf : ∀ (fn : Fn) (first cap : Array Value) (w : World), (Instr.makeFunc fn first cap).run Tryd.prog w = .ok (.func fn first cap) w := fun _ _ _ _ => rfl
    obtain ⟨p0, p1, p2, p3, p4, p5, p6, p7⟩ := dcs HF.out.wf S.out.o
    go_wp2_with (fail)
    refine (csh o.kind 1 _).mono ?_
    rintro e w1 ⟨rfl, hb1⟩
    rw [hasD_E o.kind, FE]
    replace S := lh (S.out.step hb1)
    clear hb1 p0 p1 p2 p3 p4 p5 p6 p7
    obtain ⟨p0, p1, p2, p3, p4, p5, p6, p7⟩ := dcs HF.out.wf S.out.o
    go_wp2_with (fail)
    refine (csh o.kind 2 _).mono ?_
    rintro e w1 ⟨rfl, hb1⟩
    rw [hasD_N o.kind, FN]
    replace S := lh (S.out.step hb1)
    clear hb1 p0 p1 p2 p3 p4 p5 p6 p7
    obtain ⟨p0, p1, p2, p3, p4, p5, p6, p7⟩ := dcs HF.out.wf S.out.o
    go_wp2_with (fail)
    refine (csh o.kind 4 _).mono ?_
    rintro e w1 ⟨rfl, hb1⟩
    rw [hasD_D o.kind, FD]
    replace S := lh (S.out.step hb1)
    clear hb1 p0 p1 p2 p3 p4 p5 p6 p7
    obtain ⟨p0, p1, p2, p3, p4, p5, p6, p7⟩ := dcs HF.out.wf S.out.o
    go_wp2_with (fail)
    refine (csh o.kind 8 _).mono ?_
    rintro e w1 ⟨rfl, hb1⟩
    rw [hasD_F o.kind, FF]
    replace S := lh (S.out.step hb1)
    clear hb1 p0 p1 p2 p3 p4 p5 p6 p7
    obtain ⟨p0, p1, p2, p3, p4, p5, p6, p7⟩ := dcs HF.out.wf S.out.o
    go_wp2_with (fail)
    refine (csh o.kind 16 _).mono ?_
    rintro e w1 ⟨rfl, hb1⟩
    rw [hasD_W o.kind, FW]
    replace S := lh (S.out.step hb1)
    clear hb1 p0 p1 p2 p3 p4 p5 p6 p7
    obtain ⟨p0, p1, p2, p3, p4, p5, p6, p7⟩ := dcs HF.out.wf S.out.o
    go_wp2_with (fail)
    refine (csh o.kind 32 _).mono ?_
    rintro e w1 ⟨rfl, hb1⟩
    rw [hasD_K o.kind, FK]
    replace S := lh (S.out.step hb1)
    clear hb1 p0 p1 p2 p3 p4 p5 p6 p7
    obtain ⟨p0, p1, p2, p3, p4, p5, p6, p7⟩ := dcs HF.out.wf S.out.o
    go_wp2_with (fail)
    refine (csh o.kind 64 _).mono ?_
    rintro e w1 ⟨rfl, hb1⟩
    rw [hasD_T o.kind, FT]
    replace S := lh (S.out.step hb1)
    clear hb1 p0 p1 p2 p3 p4 p5 p6 p7
    obtain ⟨p0, p1, p2, p3, p4, p5, p6, p7⟩ := dcs HF.out.wf S.out.o
    have ck := S.out.k.cell (show #[Value.bool false][0]? = some (.bool false) from rfl)
    go_wp2_with (fail)
    go_ret
    exact RetV.bool HK.out.symm S.out.below
set_option maxHeartbeats 40000000 in
set_option maxRecDepth 10000 in
theorem script_Check_hi (o : Deed) (q : Where) (w : World) (ho : o.fit) (hq : o.at_ w q) (hk : 12 < o.kind) : Calls Tryd.prog 8 #[.agg (o.arr q)] w (RetV w (.bool o.ok)) := by
  obtain ⟨FE, FN, FD, FF, FW, FK, FT⟩ : dE o.kind = false ∧ dN o.kind = false ∧ dD o.kind = false ∧ dF o.kind = false ∧ dW o.kind = false ∧ dK o.kind = false ∧ dT o.kind = false := by simp [dE, dN, dD, dF, dW, dK, dT]; omega
  have HK := lh (ok_out (o := o) (by omega))
  have B0 := lh (At.new w 38 (o.arr q))
  obtain ⟨W0, hW0⟩ : ∃ W, W = w.alloc (.cells (o.arr q) 38) := ⟨_, rfl⟩
  have HW0 := lh hW0
  rw [← hW0] at B0
  have HF := lh ho
  have HQ := lh hq
  have d1 : decide (1 ≤ o.kind) = true := by simp; omega
  have d2 : decide (o.kind ≤ 12) = false := by simp; omega
  have d1' : decide (o.kind < 1) = false := by simp; omega
  have d2' : decide (12 < o.kind) = true := by simp; omega
  obtain ⟨q0, q1, q2, q3, q4, q5, q6, q7⟩ := dcs ho.wf B0.out.2
  rw [hW0] at q0
  obtain ⟨R, hR⟩ : ∃ R : Deed, R = { dz with kind := o.kind } := ⟨_, rfl⟩
  have hRw : R.wf := by rw [hR]; exact ⟨rfl, rfl⟩
  obtain ⟨Z, hZ⟩ : ∃ Z, Z = Deed.arr dz wz := ⟨_, rfl⟩
  obtain ⟨F, hF⟩ : ∃ F, F = R.arr wz := ⟨_, rfl⟩
  have hZ63 : Z.size = 63 := by rw [hZ]; exact Deed.arr_size dz_wf
  have hF63 : F.size = 63 := by rw [hF]; exact Deed.arr_size hRw
  have hF1 : (F.all fun x => x.oneCell') = true := by rw [hF]; exact Deed.arr_ones hRw
  have HFe := lh ((show F = Deed.arr { dz with kind := o.kind } wz by rw [hF, hR]).trans (dz_arr o.kind))
  have HZe := lh (hZ.trans dz_arr0)
  have HFr := lh hF
  have HR := lh hR
  clear ho hq hk hW0 hR hZ hF
  go_enter Tryd.func8, Tryd.ntmps8
  go_wp2_with (fail)
  rw [← HW0.out]
  refine wp_region_relM (VV [some (.pointer (some ⟨w.heap.size, 0, none⟩)), some (.int .i64 o.kind), some (.agg F), some (.pointer (some ⟨w.heap.size, 0, none⟩)), some (.int .i64 o.kind), some (.bool true), some (.bool true), some (.pointer (some ⟨w.heap.size, 0, none⟩)), some (.int .i64 o.kind), some (.bool false), some (.bool false)]) (CkM W0 Z F false) 143 (by kernel_rfl) (by kernel_rfl) rfl ?_ ?_ ?_
  · intro u w' hb _
    exact ⟨hb, Bx.start rfl rfl, Bx.start rfl rfl⟩
  · refine ⟨?_, ?_, ?_, ?_, ?_, ?_, ?_, ?_, ?_, ?_, ?_, ?_, ?_, ?_, ?_, trivial⟩
    all_goals
      rintro L u W1 ⟨hB, hX, hY⟩ hL hd
      have X := lh hX
      have Y := lh hY
      have B := lh hB
      clear hX hY hB
      have BO := lh (B0.out.2.below B.out B0.out.2.lt)
      obtain ⟨p0, p1, p2, p3, p4, p5, p6, p7⟩ := dcs HF.out.wf BO.out
      have hz0 := BO.out.lt
      clear p1 p2 p3 p4 p5 p6 p7
      simp [DepsM, Region.binds, VV] at hd
      simp only [putDeps, dstOf, Region.binds]
    case refine_1 | refine_2 | refine_4 | refine_5 | refine_6 | refine_7 | refine_8 | refine_9 | refine_10 | refine_11 =>
      go_wp2_with (fail)
      exact EndM.mk rfl ⟨rfl, ckIdle B.out X.out Y.out (by decide)⟩
    case refine_3 =>
      go_wp2_with (fail)
      exact EndM.mk rfl ⟨by show _ = Value.agg F; rw [HFe.out]; rfl, B.out, X.out.pure (by decide) (by decide) (Below.refl _ _), Y.out.pure (by decide) (by decide) (Below.refl _ _)⟩
    case refine_12 =>
      go_wp2_with (fail)
      refine EndM.mk rfl ⟨trivial, B.out.alloc B.out.size _, ?_, Y.out.pure (by decide) (by decide) ((Below.refl _ _).alloc (Nat.le_refl _) _)⟩
      have := X.out.make hL (by decide) B.out.size 38
      rw [HZe.out] at this ⊢
      exact this
    case refine_13 =>
      go_wp2_with (fail)
      exact EndM.mk rfl ⟨trivial, B.out.alloc B.out.size _, X.out.pure (by decide) (by decide) ((Below.refl _ _).alloc (Nat.le_refl _) _), Y.out.make hL (by decide) B.out.size 4⟩
    case refine_14 =>
      obtain ⟨l11, ⟨-, e2⟩, -⟩ := hd
      obtain ⟨g, e11, hg, hbk⟩ := X.out.at l11 hL
      simp only [e11, e2]
      go_wp2_with (with_reducible refine stS 38 (.tmp 3) (.tmp 8) rfl rfl ?_)
      refine Stop.mk (wsB rfl _ _ _ rfl g _ rfl rfl _ hbk strOp hF63 (by rw [hZ63, hF63]) hF1 ?_)
      intro w2 hb2 hk2
      go_wp2_with (fail)
      exact EndM.mk0 rfl ⟨trivial, B.out.trans (hk2.oneB B.out.size hg), X.out.fill l11 (by decide) e11 hg hb2, Y.out.far (by decide) (by decide) hbk (by rw [hZ63]; decide) (by rw [hZ63]; decide) hk2⟩
    case refine_15 =>
      obtain ⟨l12, ⟨-, e10⟩, -⟩ := hd
      obtain ⟨g, e12, hg, hbk⟩ := Y.out.at l12 hL
      simp only [e12, e10]
      have c0 := hbk.cell (show #[Value.bool false][0]? = some (.bool false) from rfl)
      have ff := hbk.frozen 0
      have hlt := hbk.lt
      go_wp2_with (fail)
      exact EndM.mk0 rfl ⟨trivial, B.out.trans ((kept_set _ _ _ _).oneB B.out.size hg), X.out.far (by decide) (by decide) hbk (by rw [hZ63]; decide) (by rw [hF63]; decide) (kept_set _ _ _ _), Y.out.fill l12 (by decide) e12 hg (hbk.store 0 _)⟩
  · rintro u W1 hv ⟨hB, hX, hY⟩
    obtain ⟨g, e11, hg, hbg⟩ := hX.done (by decide) (by decide)
    obtain ⟨h, e12, hh, hbh⟩ := hY.done (by decide) (by decide)
    have hsz := B0.out.2.lt
    have S := lh (show SC w W1 o R q wz g h false from ⟨B0.out.1.trans (hB.mono B0.out.1.size), B0.out.2.below hB B0.out.2.lt, HFr.out ▸ hbg, hbh, by omega, by omega, fun e => by subst e; have := congrArg Array.size (Blk.inj hbg hbh); rw [hF63] at this; simp at this⟩)
    clear hv hX hY hB hbg hbh hg hh hsz
    simp only [putAll, Act.put, Nat.reduceAdd, List.setIfInBounds_toArray, List.set_cons_zero, List.set_cons_succ]
    rw [e11, e12]
    clear e11 e12 HW0 B0
    have hmf : ∀ (fn : Fn) (first cap : Array Value) (w : World), (Instr.makeFunc fn first cap).run Tryd.prog w = .ok (.func fn first cap) w := fun _ _ _ _ => rfl
    obtain ⟨p0, p1, p2, p3, p4, p5, p6, p7⟩ := dcs HF.out.wf S.out.o
    go_wp2_with (fail)
    refine (csh o.kind 1 _).mono ?_
    rintro e w1 ⟨rfl, hb1⟩
    rw [hasD_E o.kind, FE]
    replace S := lh (S.out.step hb1)
    clear hb1 p0 p1 p2 p3 p4 p5 p6 p7
    obtain ⟨p0, p1, p2, p3, p4, p5, p6, p7⟩ := dcs HF.out.wf S.out.o
    go_wp2_with (fail)
    refine (csh o.kind 2 _).mono ?_
    rintro e w1 ⟨rfl, hb1⟩
    rw [hasD_N o.kind, FN]
    replace S := lh (S.out.step hb1)
    clear hb1 p0 p1 p2 p3 p4 p5 p6 p7
    obtain ⟨p0, p1, p2, p3, p4, p5, p6, p7⟩ := dcs HF.out.wf S.out.o
    go_wp2_with (fail)
    refine (csh o.kind 4 _).mono ?_
    rintro e w1 ⟨rfl, hb1⟩
    rw [hasD_D o.kind, FD]
    replace S := lh (S.out.step hb1)
    clear hb1 p0 p1 p2 p3 p4 p5 p6 p7
    obtain ⟨p0, p1, p2, p3, p4, p5, p6, p7⟩ := dcs HF.out.wf S.out.o
    go_wp2_with (fail)
    refine (csh o.kind 8 _).mono ?_
    rintro e w1 ⟨rfl, hb1⟩
    rw [hasD_F o.kind, FF]
    replace S := lh (S.out.step hb1)
    clear hb1 p0 p1 p2 p3 p4 p5 p6 p7
    obtain ⟨p0, p1, p2, p3, p4, p5, p6, p7⟩ := dcs HF.out.wf S.out.o
    go_wp2_with (fail)
    refine (csh o.kind 16 _).mono ?_
    rintro e w1 ⟨rfl, hb1⟩
    rw [hasD_W o.kind, FW]
    replace S := lh (S.out.step hb1)
    clear hb1 p0 p1 p2 p3 p4 p5 p6 p7
    obtain ⟨p0, p1, p2, p3, p4, p5, p6, p7⟩ := dcs HF.out.wf S.out.o
    go_wp2_with (fail)
    refine (csh o.kind 32 _).mono ?_
    rintro e w1 ⟨rfl, hb1⟩
    rw [hasD_K o.kind, FK]
    replace S := lh (S.out.step hb1)
    clear hb1 p0 p1 p2 p3 p4 p5 p6 p7
    obtain ⟨p0, p1, p2, p3, p4, p5, p6, p7⟩ := dcs HF.out.wf S.out.o
    go_wp2_with (fail)
    refine (csh o.kind 64 _).mono ?_
    rintro e w1 ⟨rfl, hb1⟩
    rw [hasD_T o.kind, FT]
    replace S := lh (S.out.step hb1)
    clear hb1 p0 p1 p2 p3 p4 p5 p6 p7
    obtain ⟨p0, p1, p2, p3, p4, p5, p6, p7⟩ := dcs HF.out.wf S.out.o
    have ck := S.out.k.cell (show #[Value.bool false][0]? = some (.bool false) from rfl)
    go_wp2_with (fail)
    go_ret
    exact RetV.bool HK.out.symm S.out.below
end Go.Proofs.YtiedkcijjfmhaaaDoor
