/-
  The walk of script.Check, a class of kinds. (Printed by gen47d.py.)
-/
import Derived.Test.YtiedkcijjfmhaaaDoorSy18
namespace Go.Proofs.YtiedkcijjfmhaaaDoor
open Go.RowKit

theorem ok_K {o : Deed} (hk : o.kind = 11) : o.ok = ((decide (o.keep.length ≤ 40) && o.keep.all fun x => decide (0 ≤ x ∧ x ≤ 2)) && decide (({ dz with kind := o.kind, keep := o.keep } : Deed) = o)) := by
  have e : (o.only = o) = (({ dz with kind := o.kind, keep := o.keep } : Deed) = o) := by
    unfold Deed.only
    (have k := hk); simp [dE, dN, dD, dF, dW, dK, dT, k]
  unfold Deed.ok Deed.may
  simp only [e]
  congr 1
  (have k := hk); simp [dE, dN, dD, dF, dW, dK, dT, k]
theorem keep_all (l : List Int) : (l.all fun x => decide (0 ≤ x ∧ x ≤ 2)) = !l.any keepBad := by
  induction l with
  | nil => rfl
  | cons x r ih =>
    rw [List.all_cons, List.any_cons, ih, Bool.not_or]
    congr 1
    unfold keepBad
    rw [Bool.eq_iff_iff]
    first | (simp; done) | (simp; omega)
set_option maxHeartbeats 40000000 in
set_option maxRecDepth 10000 in
theorem script_Check_K1 (o : Deed) (q : Where) (w : World) (ho : o.fit) (hq : o.at_ w q) (hk : o.kind = 11) (h0 : o.keep.length ≤ 40) (h1 : o.keep.any keepBad = false) : Calls Tryd.prog 8 #[.agg (o.arr q)] w (RetV w (.bool o.ok)) := by
  have k1 : 1 ≤ o.kind := by omega
  have k2 : o.kind ≤ 12 := by omega
  obtain ⟨FE, FN, FD, FF, FW, FK, FT⟩ : dE o.kind = false ∧ dN o.kind = false ∧ dD o.kind = false ∧ dF o.kind = false ∧ dW o.kind = false ∧ dK o.kind = true ∧ dT o.kind = false := by simp [dE, dN, dD, dF, dW, dK, dT]; omega
  have t1 : decide ((o.keep.length : Int) ≤ 40) = true := by simp; omega
  have t1' : decide (40 < (o.keep.length : Int)) = false := by simp; omega
  have HK := lh (show o.ok = decide (({ dz with kind := o.kind, keep := o.keep } : Deed) = o) by rw [ok_K hk, keep_all, decide_eq_true h0, h1]; first | rfl | simp)
  have HC := lh h1
  clear h0 h1
  have HF := lh ho
  have HQ := lh hq
  obtain ⟨R, hR⟩ : ∃ R : Deed, R = { dz with kind := o.kind } := ⟨_, rfl⟩
  have hRw : R.wf := by rw [hR]; exact ⟨rfl, rfl⟩
  have HR := lh hR
  refine ckHead rfl o q w _ ho hq k1 k2 ?_
  intro W1 g h u S0
  have S := lh (show SC w W1 o R q wz g h true by rw [hR]; exact S0)
  have hmf := ckMf
  clear S0 ho hq hk hR k1 k2
  have ps := dcs HF.out.wf S.out.o
  go_wp2_with (fail)
  clear ps
  refine hasS S HF ((hasD_E _).trans FE) fun _ S ps => ?_
  go_wp2_with (fail)
  clear ps
  refine hasS S HF ((hasD_N _).trans FN) fun _ S ps => ?_
  go_wp2_with (fail)
  clear ps
  refine hasS S HF ((hasD_D _).trans FD) fun _ S ps => ?_
  go_wp2_with (fail)
  clear ps
  refine hasS S HF ((hasD_F _).trans FF) fun _ S ps => ?_
  go_wp2_with (fail)
  clear ps
  refine hasS S HF ((hasD_W _).trans FW) fun _ S ps => ?_
  go_wp2_with (fail)
  clear ps
  refine hasS S HF ((hasD_K _).trans FK) fun _ S ps => ?_
  have s9 := S.out.r.cell (Deed.getK hRw 0 (by omega))
  have sf := fun i => S.out.r.frozen i
  have slt := S.out.r.lt
  have S2 := lh (S.out.set (r' := { dz with kind := o.kind, keep := o.keep }) (s' := ⟨none, 0, q.K, q.m⟩) 61 (.slice q.K o.keep.length q.m) (by rw [HR.out]; exact Deed.setK (o := { dz with kind := o.kind }) (q := wz) ⟨rfl, rfl⟩ q.K o.keep q.m))
  have rs := dcs HF.out.wf S2.out.o
  go_wp2_with (fail)
  replace S := S2
  clear s9 sf slt S2 rs
  refine (c_ContainsFuncI o.keep q.K q.m _ (HQ.out.below S.out.below).k).mono ?_
  rintro e w4 ⟨rfl, hb4⟩
  rw [HC.out]
  replace S := lh (S.out.step hb4)
  clear hb4 ps
  have ps := dcs HF.out.wf S.out.o
  go_wp2_with (fail)
  clear ps
  refine alsoS S HF fun _ S ps => ?_
  go_wp2_with (fail)
  clear ps
  refine hasS S HF ((hasD_T _).trans FT) fun _ S ps => ?_
  have ck := S.out.k.cell (show #[Value.bool true][0]? = some (.bool true) from rfl)
  go_wp2_with (with_reducible refine slG 38 (.tmp 3) rfl ?_)
  refine Stop.mk (wlG (by rfl) _ _ rfl g 0 rfl _ S.out.r.all strOp (Deed.arr_size ⟨rfl, rfl⟩) ?_)
  go_wp2_with (with_reducible refine slG 38 (.tmp 1) rfl ?_)
  refine Stop.mk (wlG (by rfl) _ _ rfl w.heap.size 0 rfl _ S.out.o.all strOp (Deed.arr_size HF.out.wf) ?_)
  go_wp2_with (fail)
  refine (c_script_Same { dz with kind := o.kind, keep := o.keep } o ⟨none, 0, q.K, q.m⟩ q _ ⟨rfl, rfl⟩ HF.out.wf ⟨In.nil (by simp), (HQ.out.below S.out.below).k⟩ (HQ.out.below S.out.below)).mono ?_
  rintro e w3 ⟨rfl, hb3⟩
  go_wp2_with (fail)
  go_ret
  exact RetV.bool HK.out.symm (S.out.below.trans (hb3.mono S.out.below.size))
set_option maxHeartbeats 40000000 in
set_option maxRecDepth 10000 in
theorem script_Check_K2 (o : Deed) (q : Where) (w : World) (ho : o.fit) (hq : o.at_ w q) (hk : o.kind = 11) (h0 : o.keep.length ≤ 40) (h1 : o.keep.any keepBad = true) : Calls Tryd.prog 8 #[.agg (o.arr q)] w (RetV w (.bool o.ok)) := by
  have k1 : 1 ≤ o.kind := by omega
  have k2 : o.kind ≤ 12 := by omega
  obtain ⟨FE, FN, FD, FF, FW, FK, FT⟩ : dE o.kind = false ∧ dN o.kind = false ∧ dD o.kind = false ∧ dF o.kind = false ∧ dW o.kind = false ∧ dK o.kind = true ∧ dT o.kind = false := by simp [dE, dN, dD, dF, dW, dK, dT]; omega
  have t1 : decide ((o.keep.length : Int) ≤ 40) = true := by simp; omega
  have t1' : decide (40 < (o.keep.length : Int)) = false := by simp; omega
  have HK := lh (show o.ok = false by rw [ok_K hk, keep_all, decide_eq_true h0, h1]; first | rfl | simp)
  have HC := lh h1
  clear h0 h1
  have HF := lh ho
  have HQ := lh hq
  obtain ⟨R, hR⟩ : ∃ R : Deed, R = { dz with kind := o.kind } := ⟨_, rfl⟩
  have hRw : R.wf := by rw [hR]; exact ⟨rfl, rfl⟩
  have HR := lh hR
  refine ckHead rfl o q w _ ho hq k1 k2 ?_
  intro W1 g h u S0
  have S := lh (show SC w W1 o R q wz g h true by rw [hR]; exact S0)
  have hmf := ckMf
  clear S0 ho hq hk hR k1 k2
  have ps := dcs HF.out.wf S.out.o
  go_wp2_with (fail)
  clear ps
  refine hasS S HF ((hasD_E _).trans FE) fun _ S ps => ?_
  go_wp2_with (fail)
  clear ps
  refine hasS S HF ((hasD_N _).trans FN) fun _ S ps => ?_
  go_wp2_with (fail)
  clear ps
  refine hasS S HF ((hasD_D _).trans FD) fun _ S ps => ?_
  go_wp2_with (fail)
  clear ps
  refine hasS S HF ((hasD_F _).trans FF) fun _ S ps => ?_
  go_wp2_with (fail)
  clear ps
  refine hasS S HF ((hasD_W _).trans FW) fun _ S ps => ?_
  go_wp2_with (fail)
  clear ps
  refine hasS S HF ((hasD_K _).trans FK) fun _ S ps => ?_
  have s9 := S.out.r.cell (Deed.getK hRw 0 (by omega))
  have sf := fun i => S.out.r.frozen i
  have slt := S.out.r.lt
  have S2 := lh (S.out.set (r' := { dz with kind := o.kind, keep := o.keep }) (s' := ⟨none, 0, q.K, q.m⟩) 61 (.slice q.K o.keep.length q.m) (by rw [HR.out]; exact Deed.setK (o := { dz with kind := o.kind }) (q := wz) ⟨rfl, rfl⟩ q.K o.keep q.m))
  have rs := dcs HF.out.wf S2.out.o
  go_wp2_with (fail)
  replace S := S2
  clear s9 sf slt S2 rs
  refine (c_ContainsFuncI o.keep q.K q.m _ (HQ.out.below S.out.below).k).mono ?_
  rintro e w4 ⟨rfl, hb4⟩
  rw [HC.out]
  replace S := lh (S.out.step hb4)
  clear hb4 ps
  have ps := dcs HF.out.wf S.out.o
  go_wp2_with (fail)
  clear ps
  refine alsoS S HF fun _ S ps => ?_
  go_wp2_with (fail)
  clear ps
  refine hasS S HF ((hasD_T _).trans FT) fun _ S ps => ?_
  have ck := S.out.k.cell (show #[Value.bool false][0]? = some (.bool false) from rfl)
  go_wp2_with (fail)
  go_ret
  exact RetV.bool HK.out.symm S.out.below
set_option maxHeartbeats 40000000 in
set_option maxRecDepth 10000 in
theorem script_Check_K3 (o : Deed) (q : Where) (w : World) (ho : o.fit) (hq : o.at_ w q) (hk : o.kind = 11) (h0 : ¬ o.keep.length ≤ 40) : Calls Tryd.prog 8 #[.agg (o.arr q)] w (RetV w (.bool o.ok)) := by
  have k1 : 1 ≤ o.kind := by omega
  have k2 : o.kind ≤ 12 := by omega
  obtain ⟨FE, FN, FD, FF, FW, FK, FT⟩ : dE o.kind = false ∧ dN o.kind = false ∧ dD o.kind = false ∧ dF o.kind = false ∧ dW o.kind = false ∧ dK o.kind = true ∧ dT o.kind = false := by simp [dE, dN, dD, dF, dW, dK, dT]; omega
  have t1 : decide ((o.keep.length : Int) ≤ 40) = false := by simp; omega
  have t1' : decide (40 < (o.keep.length : Int)) = true := by simp; omega
  have HK := lh (show o.ok = false by rw [ok_K hk, keep_all, decide_eq_false h0]; first | rfl | simp)
  clear h0
  have HF := lh ho
  have HQ := lh hq
  obtain ⟨R, hR⟩ : ∃ R : Deed, R = { dz with kind := o.kind } := ⟨_, rfl⟩
  have hRw : R.wf := by rw [hR]; exact ⟨rfl, rfl⟩
  have HR := lh hR
  refine ckHead rfl o q w _ ho hq k1 k2 ?_
  intro W1 g h u S0
  have S := lh (show SC w W1 o R q wz g h true by rw [hR]; exact S0)
  have hmf := ckMf
  clear S0 ho hq hk hR k1 k2
  have ps := dcs HF.out.wf S.out.o
  go_wp2_with (fail)
  clear ps
  refine hasS S HF ((hasD_E _).trans FE) fun _ S ps => ?_
  go_wp2_with (fail)
  clear ps
  refine hasS S HF ((hasD_N _).trans FN) fun _ S ps => ?_
  go_wp2_with (fail)
  clear ps
  refine hasS S HF ((hasD_D _).trans FD) fun _ S ps => ?_
  go_wp2_with (fail)
  clear ps
  refine hasS S HF ((hasD_F _).trans FF) fun _ S ps => ?_
  go_wp2_with (fail)
  clear ps
  refine hasS S HF ((hasD_W _).trans FW) fun _ S ps => ?_
  go_wp2_with (fail)
  clear ps
  refine hasS S HF ((hasD_K _).trans FK) fun _ S ps => ?_
  have s9 := S.out.r.cell (Deed.getK hRw 0 (by omega))
  have sf := fun i => S.out.r.frozen i
  have slt := S.out.r.lt
  have S2 := lh (S.out.set (r' := { dz with kind := o.kind, keep := o.keep }) (s' := ⟨none, 0, q.K, q.m⟩) 61 (.slice q.K o.keep.length q.m) (by rw [HR.out]; exact Deed.setK (o := { dz with kind := o.kind }) (q := wz) ⟨rfl, rfl⟩ q.K o.keep q.m))
  have rs := dcs HF.out.wf S2.out.o
  go_wp2_with (fail)
  replace S := S2
  clear s9 sf slt S2 rs
  clear ps
  refine alsoS S HF fun _ S ps => ?_
  go_wp2_with (fail)
  clear ps
  refine hasS S HF ((hasD_T _).trans FT) fun _ S ps => ?_
  have ck := S.out.k.cell (show #[Value.bool false][0]? = some (.bool false) from rfl)
  go_wp2_with (fail)
  go_ret
  exact RetV.bool HK.out.symm S.out.below
end Go.Proofs.YtiedkcijjfmhaaaDoor
