/-
  The walk of script.Check, a class of kinds. (Printed by gen47d.py.)
-/
import Derived.Test.YtiedkcijjfmhaaaDoorSy27
namespace Go.Proofs.YtiedkcijjfmhaaaDoor
open Go.RowKit

set_option maxHeartbeats 40000000 in
set_option maxRecDepth 10000 in
theorem script_Check_Wb1 (o : Deed) (q : Where) (w : World) (ho : o.fit) (hq : o.at_ w q) (hk : o.kind = 5) (h0 : 0 ≤ o.dev) (h1 : ¬ o.dev ≤ 5) (g0 : 1 ≤ o.id) (g1 : o.id ≤ 1073741823) (g2 : o.p.code = 0) : Calls Tryd.prog 8 #[.agg (o.arr q)] w (RetV w (.bool o.ok)) := by
  have k1 : 1 ≤ o.kind := by omega
  have k2 : o.kind ≤ 12 := by omega
  obtain ⟨FE, FN, FD, FF, FW, FK, FT⟩ : dE o.kind = false ∧ dN o.kind = false ∧ dD o.kind = true ∧ dF o.kind = false ∧ dW o.kind = true ∧ dK o.kind = false ∧ dT o.kind = false := by simp [dE, dN, dD, dF, dW, dK, dT]; omega
  have t1 : decide (0 ≤ o.dev) = true := by simp; omega
  have t1' : decide (o.dev < 0) = false := by simp; omega
  have t2 : decide (o.dev < 6) = false := by simp; omega
  have t2' : decide (6 ≤ o.dev) = true := by simp; omega
  have u0 : decide (1 ≤ o.id) = true := by simp; omega
  have u0' : decide (o.id < 1) = false := by simp; omega
  have u1 : decide (o.id < 1073741824) = true := by simp; omega
  have u1' : decide (1073741824 ≤ o.id) = false := by simp; omega
  have u2 : (o.p.code == 0) = true := by simpa using g2
  have HK := lh (show o.ok = false by rw [ok_W hk, decide_eq_false (show ¬ (0 ≤ o.dev ∧ o.dev ≤ 5) by omega), decide_eq_true (show (1 ≤ o.id ∧ o.id ≤ 1073741823 ∧ o.p.code = 0) from ⟨g0, g1, g2⟩)]; first | rfl | simp)
  clear h0 g0 h1 g1 g2
  have HF := lh ho
  have HQ := lh hq
  obtain ⟨R, hR⟩ : ∃ R : Deed, R = { dz with kind := o.kind } := ⟨_, rfl⟩
  have hRw : R.wf := by rw [hR]; exact ⟨rfl, rfl⟩
  have HR := lh hR
  refine ckHead rfl o q w _ ho hq k1 k2 ?_
  intro W1 g h u S0
  have S := lh (show SC w W1 o R q wz g h true by rw [hR]; exact S0)
  have hmf := ckMf
  clear S0 ho hq hk hR k1 k2
  have ps := dcs HF.out.wf S.out.o
  go_wp2_with (fail)
  clear ps
  refine hasS S HF ((hasD_E _).trans FE) fun _ S ps => ?_
  go_wp2_with (fail)
  clear ps
  refine hasS S HF ((hasD_N _).trans FN) fun _ S ps => ?_
  go_wp2_with (fail)
  clear ps
  refine hasS S HF ((hasD_D _).trans FD) fun _ S ps => ?_
  have s9 := S.out.r.cell (Deed.getI 2 (by omega))
  have sf := fun i => S.out.r.frozen i
  have slt := S.out.r.lt
  have S2 := lh (S.out.devS HR.out)
  have rs := dcs HF.out.wf S2.out.o
  go_wp2_with (fail)
  replace S := S2
  clear s9 sf slt S2 rs
  clear ps
  refine alsoS S HF fun _ S ps => ?_
  go_wp2_with (fail)
  clear ps
  refine hasS S HF ((hasD_F _).trans FF) fun _ S ps => ?_
  go_wp2_with (fail)
  clear ps
  refine hasS S HF ((hasD_W _).trans FW) fun _ S ps => ?_
  go_wp2_with (fail)
  refine wp_region_relM (VV [some (.pointer (some ⟨w.heap.size, 3, none⟩)), some (.int .i64 o.id), some (.pointer (some ⟨w.heap.size, 35, none⟩)), some (.agg o.p.arr), some (.pointer (some ⟨g, 3, none⟩)), none, some (.pointer (some ⟨g, 35, none⟩)), none]) (WM w o q g h false) 143 (by kernel_rfl) (by kernel_rfl) rfl ?_ ?_ ?_
  · intro u w' hb hh
    exact WM.start (S.out.step hb)
  · refine ⟨?_, ?_, ?_, ?_, ?_, ?_, ?_, ?_, trivial⟩
    all_goals
      rintro L u W1 hM hL hd
      have M := lh hM
      clear hM
      clear ps
      have ps := dcs HF.out.wf M.out.o
      simp [DepsM, Region.binds, VV] at hd
      simp only [putDeps, dstOf, Region.binds]
    case refine_1 | refine_2 | refine_3 | refine_5 | refine_7 =>
      go_wp2_with (fail)
      exact EndM.mk rfl ⟨rfl, M.out.pure (by decide) (by decide)⟩
    case refine_4 =>
      have e2 := hd.2
      simp only [e2]
      go_wp2_with (with_reducible refine slG 28 (.tmp 87) rfl ?_)
      refine Stop.mk (wlG (by rfl) _ _ rfl w.heap.size 35 rfl o.p.arr (deed_patch HF.out.wf M.out.blk) strP (by rw [Patch.arr_size, HF.out.wf.p]) ?_)
      go_wp2_with (fail)
      exact EndM.mk rfl ⟨rfl, M.out.pure (by decide) (by decide)⟩
    case refine_6 =>
      have s9 := M.out.row.cell (Deed.getI 3 (by omega))
      have sf := fun i => M.out.row.frozen i
      have slt := M.out.row.lt
      go_wp2_with (fail)
      exact EndM.mk0 rfl ⟨trivial, WM.set5 M.out hL HF.out.wf⟩
    case refine_8 =>
      obtain ⟨⟨-, e6⟩, ⟨-, e3⟩, -⟩ := hd
      simp only [e6, e3]
      go_wp2_with (with_reducible refine stS 28 (.tmp 90) (.tmp 88) rfl rfl ?_)
      refine Stop.mk (wpList_storeAt rfl _ _ _ rfl g 35 o.p.arr rfl rfl _ M.out.row strP (by rw [Patch.arr_size, HF.out.wf.p]) (by rw [Patch.arr_size, HF.out.wf.p, Deed.arr_size (WR_wf HF.out.wf _ _)]; decide) (Patch.arr_one o.p) ?_)
      intro w3 hb3 hk3
      go_wp2_with (fail)
      exact EndM.mk0 rfl ⟨trivial, WM.put7 M.out hL HF.out.wf hk3 hb3⟩
  · rintro u W1 hv hM
    have S := lh (WM.done hM)
    clear hv hM ps
    simp only [putAll, Act.put, Nat.reduceAdd, List.setIfInBounds_toArray, List.set_cons_zero, List.set_cons_succ]
    have ps := dcs HF.out.wf S.out.o
    go_wp2_with (with_reducible refine slG 28 (.tmp 101) rfl ?_)
    refine Stop.mk (wlG (by rfl) _ _ rfl w.heap.size 35 rfl o.p.arr (deed_patch HF.out.wf S.out.o) strP (by rw [Patch.arr_size, HF.out.wf.p]) ?_)
    go_wp2_with (fail)
    clear ps
    refine stepS S HF (c_card_CheckPatch o.p _ HF.out.pm HF.out.wf.p HF.out.ps) fun _ S ps => ?_
    go_wp2_with (fail)
    clear ps
    refine alsoS S HF fun _ S ps => ?_
    go_wp2_with (fail)
    clear ps
    refine hasS S HF ((hasD_K _).trans FK) fun _ S ps => ?_
    go_wp2_with (fail)
    clear ps
    refine hasS S HF ((hasD_T _).trans FT) fun _ S ps => ?_
    have ck := S.out.k.cell (show #[Value.bool false][0]? = some (.bool false) from rfl)
    go_wp2_with (fail)
    go_ret
    exact RetV.bool HK.out.symm S.out.below
set_option maxHeartbeats 40000000 in
set_option maxRecDepth 10000 in
theorem script_Check_Wb2 (o : Deed) (q : Where) (w : World) (ho : o.fit) (hq : o.at_ w q) (hk : o.kind = 5) (h0 : 0 ≤ o.dev) (h1 : ¬ o.dev ≤ 5) (g0 : 1 ≤ o.id) (g1 : o.id ≤ 1073741823) (g2 : ¬ o.p.code = 0) : Calls Tryd.prog 8 #[.agg (o.arr q)] w (RetV w (.bool o.ok)) := by
  have k1 : 1 ≤ o.kind := by omega
  have k2 : o.kind ≤ 12 := by omega
  obtain ⟨FE, FN, FD, FF, FW, FK, FT⟩ : dE o.kind = false ∧ dN o.kind = false ∧ dD o.kind = true ∧ dF o.kind = false ∧ dW o.kind = true ∧ dK o.kind = false ∧ dT o.kind = false := by simp [dE, dN, dD, dF, dW, dK, dT]; omega
  have t1 : decide (0 ≤ o.dev) = true := by simp; omega
  have t1' : decide (o.dev < 0) = false := by simp; omega
  have t2 : decide (o.dev < 6) = false := by simp; omega
  have t2' : decide (6 ≤ o.dev) = true := by simp; omega
  have u0 : decide (1 ≤ o.id) = true := by simp; omega
  have u0' : decide (o.id < 1) = false := by simp; omega
  have u1 : decide (o.id < 1073741824) = true := by simp; omega
  have u1' : decide (1073741824 ≤ o.id) = false := by simp; omega
  have u2 : (o.p.code == 0) = false := by simpa using g2
  have HK := lh (show o.ok = false by rw [ok_W hk, decide_eq_false (show ¬ (0 ≤ o.dev ∧ o.dev ≤ 5) by omega), decide_eq_false (show ¬ (1 ≤ o.id ∧ o.id ≤ 1073741823 ∧ o.p.code = 0) from fun e => by exact g2 e.2.2)]; first | rfl | simp)
  clear h0 g0 h1 g1 g2
  have HF := lh ho
  have HQ := lh hq
  obtain ⟨R, hR⟩ : ∃ R : Deed, R = { dz with kind := o.kind } := ⟨_, rfl⟩
  have hRw : R.wf := by rw [hR]; exact ⟨rfl, rfl⟩
  have HR := lh hR
  refine ckHead rfl o q w _ ho hq k1 k2 ?_
  intro W1 g h u S0
  have S := lh (show SC w W1 o R q wz g h true by rw [hR]; exact S0)
  have hmf := ckMf
  clear S0 ho hq hk hR k1 k2
  have ps := dcs HF.out.wf S.out.o
  go_wp2_with (fail)
  clear ps
  refine hasS S HF ((hasD_E _).trans FE) fun _ S ps => ?_
  go_wp2_with (fail)
  clear ps
  refine hasS S HF ((hasD_N _).trans FN) fun _ S ps => ?_
  go_wp2_with (fail)
  clear ps
  refine hasS S HF ((hasD_D _).trans FD) fun _ S ps => ?_
  have s9 := S.out.r.cell (Deed.getI 2 (by omega))
  have sf := fun i => S.out.r.frozen i
  have slt := S.out.r.lt
  have S2 := lh (S.out.devS HR.out)
  have rs := dcs HF.out.wf S2.out.o
  go_wp2_with (fail)
  replace S := S2
  clear s9 sf slt S2 rs
  clear ps
  refine alsoS S HF fun _ S ps => ?_
  go_wp2_with (fail)
  clear ps
  refine hasS S HF ((hasD_F _).trans FF) fun _ S ps => ?_
  go_wp2_with (fail)
  clear ps
  refine hasS S HF ((hasD_W _).trans FW) fun _ S ps => ?_
  go_wp2_with (fail)
  refine wp_region_relM (VV [some (.pointer (some ⟨w.heap.size, 3, none⟩)), some (.int .i64 o.id), some (.pointer (some ⟨w.heap.size, 35, none⟩)), some (.agg o.p.arr), some (.pointer (some ⟨g, 3, none⟩)), none, some (.pointer (some ⟨g, 35, none⟩)), none]) (WM w o q g h false) 143 (by kernel_rfl) (by kernel_rfl) rfl ?_ ?_ ?_
  · intro u w' hb hh
    exact WM.start (S.out.step hb)
  · refine ⟨?_, ?_, ?_, ?_, ?_, ?_, ?_, ?_, trivial⟩
    all_goals
      rintro L u W1 hM hL hd
      have M := lh hM
      clear hM
      clear ps
      have ps := dcs HF.out.wf M.out.o
      simp [DepsM, Region.binds, VV] at hd
      simp only [putDeps, dstOf, Region.binds]
    case refine_1 | refine_2 | refine_3 | refine_5 | refine_7 =>
      go_wp2_with (fail)
      exact EndM.mk rfl ⟨rfl, M.out.pure (by decide) (by decide)⟩
    case refine_4 =>
      have e2 := hd.2
      simp only [e2]
      go_wp2_with (with_reducible refine slG 28 (.tmp 87) rfl ?_)
      refine Stop.mk (wlG (by rfl) _ _ rfl w.heap.size 35 rfl o.p.arr (deed_patch HF.out.wf M.out.blk) strP (by rw [Patch.arr_size, HF.out.wf.p]) ?_)
      go_wp2_with (fail)
      exact EndM.mk rfl ⟨rfl, M.out.pure (by decide) (by decide)⟩
    case refine_6 =>
      have s9 := M.out.row.cell (Deed.getI 3 (by omega))
      have sf := fun i => M.out.row.frozen i
      have slt := M.out.row.lt
      go_wp2_with (fail)
      exact EndM.mk0 rfl ⟨trivial, WM.set5 M.out hL HF.out.wf⟩
    case refine_8 =>
      obtain ⟨⟨-, e6⟩, ⟨-, e3⟩, -⟩ := hd
      simp only [e6, e3]
      go_wp2_with (with_reducible refine stS 28 (.tmp 90) (.tmp 88) rfl rfl ?_)
      refine Stop.mk (wpList_storeAt rfl _ _ _ rfl g 35 o.p.arr rfl rfl _ M.out.row strP (by rw [Patch.arr_size, HF.out.wf.p]) (by rw [Patch.arr_size, HF.out.wf.p, Deed.arr_size (WR_wf HF.out.wf _ _)]; decide) (Patch.arr_one o.p) ?_)
      intro w3 hb3 hk3
      go_wp2_with (fail)
      exact EndM.mk0 rfl ⟨trivial, WM.put7 M.out hL HF.out.wf hk3 hb3⟩
  · rintro u W1 hv hM
    have S := lh (WM.done hM)
    clear hv hM ps
    simp only [putAll, Act.put, Nat.reduceAdd, List.setIfInBounds_toArray, List.set_cons_zero, List.set_cons_succ]
    have ps := dcs HF.out.wf S.out.o
    go_wp2_with (with_reducible refine slG 28 (.tmp 101) rfl ?_)
    refine Stop.mk (wlG (by rfl) _ _ rfl w.heap.size 35 rfl o.p.arr (deed_patch HF.out.wf S.out.o) strP (by rw [Patch.arr_size, HF.out.wf.p]) ?_)
    go_wp2_with (fail)
    clear ps
    refine stepS S HF (c_card_CheckPatch o.p _ HF.out.pm HF.out.wf.p HF.out.ps) fun _ S ps => ?_
    go_wp2_with (fail)
    clear ps
    refine alsoS S HF fun _ S ps => ?_
    go_wp2_with (fail)
    clear ps
    refine hasS S HF ((hasD_K _).trans FK) fun _ S ps => ?_
    go_wp2_with (fail)
    clear ps
    refine hasS S HF ((hasD_T _).trans FT) fun _ S ps => ?_
    have ck := S.out.k.cell (show #[Value.bool false][0]? = some (.bool false) from rfl)
    go_wp2_with (fail)
    go_ret
    exact RetV.bool HK.out.symm S.out.below
end Go.Proofs.YtiedkcijjfmhaaaDoor
