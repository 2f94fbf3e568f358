/-
  The walk of script.Check, a class of kinds. (Printed by gen47d.py.)
-/
import Derived.Test.YtiedkcijjfmhaaaDoorSy14
import Derived.Test.YtiedkcijjfmhaaaDoorSy18
namespace Go.Proofs.YtiedkcijjfmhaaaDoor
open Go.RowKit

theorem ok_E {o : Deed} (hk : o.kind = 1) : o.ok = (decide (o.e.code = 0) && decide (({ dz with kind := o.kind, e := o.e } : Deed) = o)) := by
  have e : (o.only = o) = (({ dz with kind := o.kind, e := o.e } : Deed) = o) := by
    unfold Deed.only
    (have k := hk); simp [dE, dN, dD, dF, dW, dK, dT, k]
  unfold Deed.ok Deed.may
  simp only [e]
  congr 1
  (have k := hk); simp [dE, dN, dD, dF, dW, dK, dT, k]
set_option maxHeartbeats 40000000 in
set_option maxRecDepth 10000 in
theorem script_Check_E1 (o : Deed) (q : Where) (w : World) (ho : o.fit) (hq : o.at_ w q) (hk : o.kind = 1) (hl : o.e.code = 0) : Calls Tryd.prog 8 #[.agg (o.arr q)] w (RetV w (.bool o.ok)) := by
  have k1 : 1 ≤ o.kind := by omega
  have k2 : o.kind ≤ 12 := by omega
  obtain ⟨FE, FN, FD, FF, FW, FK, FT⟩ : dE o.kind = true ∧ dN o.kind = false ∧ dD o.kind = false ∧ dF o.kind = false ∧ dW o.kind = false ∧ dK o.kind = false ∧ dT o.kind = false := by simp [dE, dN, dD, dF, dW, dK, dT]; omega
  have tb : (o.e.code == 0) = true := by simpa using hl
  have HK := lh (show o.ok = decide (({ dz with kind := o.kind, e := o.e } : Deed) = o) by rw [ok_E hk, decide_eq_true hl]; first | rfl | simp)
  clear hl
  have HF := lh ho
  have HQ := lh hq
  obtain ⟨R, hR⟩ : ∃ R : Deed, R = { dz with kind := o.kind } := ⟨_, rfl⟩
  have hRw : R.wf := by rw [hR]; exact ⟨rfl, rfl⟩
  have HR := lh hR
  refine ckHead rfl o q w _ ho hq k1 k2 ?_
  intro W1 g h u S0
  have S := lh (show SC w W1 o R q wz g h true by rw [hR]; exact S0)
  have hmf := ckMf
  clear S0 ho hq hk hR k1 k2
  have ps := dcs HF.out.wf S.out.o
  go_wp2_with (fail)
  clear ps
  refine hasS S HF ((hasD_E _).trans FE) fun _ S ps => ?_
  go_wp2_with (with_reducible refine slG 30 (.tmp 21) rfl ?_)
  refine Stop.mk (wlG (by rfl) _ _ rfl w.heap.size 4 rfl o.e.arr (deed_edit HF.out.wf S.out.o) strE (by rw [Edit.arr_size, HF.out.wf.e]) ?_)
  go_wp2_with (with_reducible refine stS 30 (.tmp 23) (.tmp 22) rfl rfl ?_)
  refine Stop.mk (wpList_storeAt rfl _ _ _ rfl g 4 o.e.arr rfl rfl _ S.out.r strE (by rw [Edit.arr_size, HF.out.wf.e]) (by rw [Edit.arr_size, HF.out.wf.e, Deed.arr_size hRw]; decide) (Edit.arr_one o.e) ?_)
  intro w3 hb3 hk3
  replace S := lh (S.out.put (r' := { dz with kind := o.kind, e := o.e }) (s' := wz) hk3 (by have := Deed.putE (q := wz) hRw o.e HF.out.wf.e; rw [this] at hb3; rw [HR.out] at hb3; exact hb3))
  clear hb3 hk3 ps
  have ps := dcs HF.out.wf S.out.o
  go_wp2_with (with_reducible refine slG 30 (.tmp 25) rfl ?_)
  refine Stop.mk (wlG (by rfl) _ _ rfl w.heap.size 4 rfl o.e.arr (deed_edit HF.out.wf S.out.o) strE (by rw [Edit.arr_size, HF.out.wf.e]) ?_)
  go_wp2_with (fail)
  clear ps
  refine stepS S HF (c_edit_Check o.e _ HF.out.wf.e HF.out.es HF.out.em) fun _ S ps => ?_
  go_wp2_with (fail)
  clear ps
  refine alsoS S HF fun _ S ps => ?_
  go_wp2_with (fail)
  clear ps
  refine hasS S HF ((hasD_N _).trans FN) fun _ S ps => ?_
  go_wp2_with (fail)
  clear ps
  refine hasS S HF ((hasD_D _).trans FD) fun _ S ps => ?_
  go_wp2_with (fail)
  clear ps
  refine hasS S HF ((hasD_F _).trans FF) fun _ S ps => ?_
  go_wp2_with (fail)
  clear ps
  refine hasS S HF ((hasD_W _).trans FW) fun _ S ps => ?_
  go_wp2_with (fail)
  clear ps
  refine hasS S HF ((hasD_K _).trans FK) fun _ S ps => ?_
  go_wp2_with (fail)
  clear ps
  refine hasS S HF ((hasD_T _).trans FT) fun _ S ps => ?_
  have ck := S.out.k.cell (show #[Value.bool true][0]? = some (.bool true) from rfl)
  go_wp2_with (with_reducible refine slG 38 (.tmp 3) rfl ?_)
  refine Stop.mk (wlG (by rfl) _ _ rfl g 0 rfl _ S.out.r.all strOp (Deed.arr_size ⟨HF.out.wf.e, rfl⟩) ?_)
  go_wp2_with (with_reducible refine slG 38 (.tmp 1) rfl ?_)
  refine Stop.mk (wlG (by rfl) _ _ rfl w.heap.size 0 rfl _ S.out.o.all strOp (Deed.arr_size HF.out.wf) ?_)
  go_wp2_with (fail)
  refine (c_script_Same { dz with kind := o.kind, e := o.e } o wz q _ ⟨HF.out.wf.e, rfl⟩ HF.out.wf ⟨In.nil (by simp), In.nil (by simp)⟩ (HQ.out.below S.out.below)).mono ?_
  rintro e w3 ⟨rfl, hb3⟩
  go_wp2_with (fail)
  go_ret
  exact RetV.bool HK.out.symm (S.out.below.trans (hb3.mono S.out.below.size))
set_option maxHeartbeats 40000000 in
set_option maxRecDepth 10000 in
theorem script_Check_E0 (o : Deed) (q : Where) (w : World) (ho : o.fit) (hq : o.at_ w q) (hk : o.kind = 1) (hl : ¬ o.e.code = 0) : Calls Tryd.prog 8 #[.agg (o.arr q)] w (RetV w (.bool o.ok)) := by
  have k1 : 1 ≤ o.kind := by omega
  have k2 : o.kind ≤ 12 := by omega
  obtain ⟨FE, FN, FD, FF, FW, FK, FT⟩ : dE o.kind = true ∧ dN o.kind = false ∧ dD o.kind = false ∧ dF o.kind = false ∧ dW o.kind = false ∧ dK o.kind = false ∧ dT o.kind = false := by simp [dE, dN, dD, dF, dW, dK, dT]; omega
  have tb : (o.e.code == 0) = false := by simpa using hl
  have HK := lh (show o.ok = false by rw [ok_E hk, decide_eq_false hl]; first | rfl | simp)
  clear hl
  have HF := lh ho
  have HQ := lh hq
  obtain ⟨R, hR⟩ : ∃ R : Deed, R = { dz with kind := o.kind } := ⟨_, rfl⟩
  have hRw : R.wf := by rw [hR]; exact ⟨rfl, rfl⟩
  have HR := lh hR
  refine ckHead rfl o q w _ ho hq k1 k2 ?_
  intro W1 g h u S0
  have S := lh (show SC w W1 o R q wz g h true by rw [hR]; exact S0)
  have hmf := ckMf
  clear S0 ho hq hk hR k1 k2
  have ps := dcs HF.out.wf S.out.o
  go_wp2_with (fail)
  clear ps
  refine hasS S HF ((hasD_E _).trans FE) fun _ S ps => ?_
  go_wp2_with (with_reducible refine slG 30 (.tmp 21) rfl ?_)
  refine Stop.mk (wlG (by rfl) _ _ rfl w.heap.size 4 rfl o.e.arr (deed_edit HF.out.wf S.out.o) strE (by rw [Edit.arr_size, HF.out.wf.e]) ?_)
  go_wp2_with (with_reducible refine stS 30 (.tmp 23) (.tmp 22) rfl rfl ?_)
  refine Stop.mk (wpList_storeAt rfl _ _ _ rfl g 4 o.e.arr rfl rfl _ S.out.r strE (by rw [Edit.arr_size, HF.out.wf.e]) (by rw [Edit.arr_size, HF.out.wf.e, Deed.arr_size hRw]; decide) (Edit.arr_one o.e) ?_)
  intro w3 hb3 hk3
  replace S := lh (S.out.put (r' := { dz with kind := o.kind, e := o.e }) (s' := wz) hk3 (by have := Deed.putE (q := wz) hRw o.e HF.out.wf.e; rw [this] at hb3; rw [HR.out] at hb3; exact hb3))
  clear hb3 hk3 ps
  have ps := dcs HF.out.wf S.out.o
  go_wp2_with (with_reducible refine slG 30 (.tmp 25) rfl ?_)
  refine Stop.mk (wlG (by rfl) _ _ rfl w.heap.size 4 rfl o.e.arr (deed_edit HF.out.wf S.out.o) strE (by rw [Edit.arr_size, HF.out.wf.e]) ?_)
  go_wp2_with (fail)
  clear ps
  refine stepS S HF (c_edit_Check o.e _ HF.out.wf.e HF.out.es HF.out.em) fun _ S ps => ?_
  go_wp2_with (fail)
  clear ps
  refine alsoS S HF fun _ S ps => ?_
  go_wp2_with (fail)
  clear ps
  refine hasS S HF ((hasD_N _).trans FN) fun _ S ps => ?_
  go_wp2_with (fail)
  clear ps
  refine hasS S HF ((hasD_D _).trans FD) fun _ S ps => ?_
  go_wp2_with (fail)
  clear ps
  refine hasS S HF ((hasD_F _).trans FF) fun _ S ps => ?_
  go_wp2_with (fail)
  clear ps
  refine hasS S HF ((hasD_W _).trans FW) fun _ S ps => ?_
  go_wp2_with (fail)
  clear ps
  refine hasS S HF ((hasD_K _).trans FK) fun _ S ps => ?_
  go_wp2_with (fail)
  clear ps
  refine hasS S HF ((hasD_T _).trans FT) fun _ S ps => ?_
  have ck := S.out.k.cell (show #[Value.bool false][0]? = some (.bool false) from rfl)
  go_wp2_with (fail)
  go_ret
  exact RetV.bool HK.out.symm S.out.below
end Go.Proofs.YtiedkcijjfmhaaaDoor
