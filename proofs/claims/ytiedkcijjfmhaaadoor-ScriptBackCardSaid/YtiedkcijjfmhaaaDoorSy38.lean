/-
  The walk of the reference's Check of acts, a class of kinds. (Printed by gen47j.py.)
-/
import Derived.Test.YtiedkcijjfmhaaaDoorSy20
import Derived.Test.YtiedkcijjfmhaaaDoorSy24
import Derived.Test.YtiedkcijjfmhaaaDoorSy29
namespace Go.Proofs.YtiedkcijjfmhaaaDoor
open Go.RowKit

set_option maxHeartbeats 40000000 in
set_option maxRecDepth 10000 in
theorem ref47_Check_lo (o : Deed) (q : Where) (w : World) (ho : o.fit) (hq : o.at_ w q) (hk : o.kind < 1) : Calls Tryd.prog 10 #[.agg (o.arr q)] w (RetV w (.bool o.ok)) := by
  have FN : dN o.kind = false := by unfold dN; simp; omega
  have FD : dD o.kind = false := by unfold dD; simp; omega
  have j1 : (o.kind == 1) = false := by simp; omega
  have j3 : (o.kind == 3) = false := by simp; omega
  have j5 : (o.kind == 5) = false := by simp; omega
  have j11 : (o.kind == 11) = false := by simp; omega
  have j12 : (o.kind == 12) = false := by simp; omega
  have d1 : decide (1 ≤ o.kind) = false := by simp; omega
  have d1' : decide (o.kind < 1) = true := by simp; omega
  have HK := lh (ok_out (o := o) (by omega))
  have HF := lh ho
  have HQ := lh hq
  obtain ⟨R, hR⟩ : ∃ R : Deed, R = { dz with kind := o.kind } := ⟨_, rfl⟩
  have hRw : R.wf := by rw [hR]; exact ⟨rfl, rfl⟩
  have HR := lh hR
  refine rkHead rfl o q w _ ho ?_
  intro w1 g v S0
  have S := lh (show XC w w1 o R q wz g by rw [hR]; exact S0)
  clear S0 ho hq hk hR
  have ps := dcs HF.out.wf S.out.o
  go_wp2_with (fail)
  clear ps
  refine numS S HF FN fun _ S ps => ?_
  go_wp2_with (fail)
  clear ps
  refine devS S HF FD fun _ S ps => ?_
  go_wp2_with (fail)
  go_ret
  exact RetV.bool HK.out.symm S.out.below
set_option maxHeartbeats 40000000 in
set_option maxRecDepth 10000 in
theorem ref47_Check_hi (o : Deed) (q : Where) (w : World) (ho : o.fit) (hq : o.at_ w q) (hk : 12 < o.kind) : Calls Tryd.prog 10 #[.agg (o.arr q)] w (RetV w (.bool o.ok)) := by
  have FN : dN o.kind = false := by unfold dN; simp; omega
  have FD : dD o.kind = false := by unfold dD; simp; omega
  have j1 : (o.kind == 1) = false := by simp; omega
  have j3 : (o.kind == 3) = false := by simp; omega
  have j5 : (o.kind == 5) = false := by simp; omega
  have j11 : (o.kind == 11) = false := by simp; omega
  have j12 : (o.kind == 12) = false := by simp; omega
  have d1 : decide (1 ≤ o.kind) = true := by simp; omega
  have d1' : decide (o.kind < 1) = false := by simp; omega
  have d2 : decide (o.kind ≤ 12) = false := by simp; omega
  have d2' : decide (12 < o.kind) = true := by simp; omega
  have HK := lh (ok_out (o := o) (by omega))
  have HF := lh ho
  have HQ := lh hq
  obtain ⟨R, hR⟩ : ∃ R : Deed, R = { dz with kind := o.kind } := ⟨_, rfl⟩
  have hRw : R.wf := by rw [hR]; exact ⟨rfl, rfl⟩
  have HR := lh hR
  refine rkHead rfl o q w _ ho ?_
  intro w1 g v S0
  have S := lh (show XC w w1 o R q wz g by rw [hR]; exact S0)
  clear S0 ho hq hk hR
  have ps := dcs HF.out.wf S.out.o
  go_wp2_with (fail)
  clear ps
  refine numS S HF FN fun _ S ps => ?_
  go_wp2_with (fail)
  clear ps
  refine devS S HF FD fun _ S ps => ?_
  go_wp2_with (fail)
  go_ret
  exact RetV.bool HK.out.symm S.out.below
set_option maxHeartbeats 40000000 in
set_option maxRecDepth 10000 in
theorem ref47_Check_T1 (o : Deed) (q : Where) (w : World) (ho : o.fit) (hq : o.at_ w q) (hk : o.kind = 12) (hl : o.text.length ≤ 4096) : Calls Tryd.prog 10 #[.agg (o.arr q)] w (RetV w (.bool o.ok)) := by
  have FN : dN o.kind = false := by unfold dN; simp; omega
  have FD : dD o.kind = false := by unfold dD; simp; omega
  have j1 : (o.kind == 1) = false := by simp; omega
  have j3 : (o.kind == 3) = false := by simp; omega
  have j5 : (o.kind == 5) = false := by simp; omega
  have j11 : (o.kind == 11) = false := by simp; omega
  have j12 : (o.kind == 12) = true := by simp; omega
  have d1 : decide (1 ≤ o.kind) = true := by simp; omega
  have d1' : decide (o.kind < 1) = false := by simp; omega
  have d2 : decide (o.kind ≤ 12) = true := by simp; omega
  have d2' : decide (12 < o.kind) = false := by simp; omega
  have tb : decide ((o.text.length : Int) ≤ 4096) = true := by simp; omega
  have tb' : decide (4096 < (o.text.length : Int)) = false := by simp; omega
  have HK := lh (show o.ok = decide (({ dz with kind := o.kind, text := o.text } : Deed) = o) by rw [ok_T hk, decide_eq_true hl]; first | rfl | simp)
  clear hl
  have HF := lh ho
  have HQ := lh hq
  obtain ⟨R, hR⟩ : ∃ R : Deed, R = { dz with kind := o.kind } := ⟨_, rfl⟩
  have hRw : R.wf := by rw [hR]; exact ⟨rfl, rfl⟩
  have HR := lh hR
  refine rkHead rfl o q w _ ho ?_
  intro w1 g v S0
  have S := lh (show XC w w1 o R q wz g by rw [hR]; exact S0)
  clear S0 ho hq hk hR
  have ps := dcs HF.out.wf S.out.o
  go_wp2_with (fail)
  clear ps
  refine numS S HF FN fun _ S ps => ?_
  go_wp2_with (fail)
  clear ps
  refine devS S HF FD fun _ S ps => ?_
  have s9 := S.out.r.cell (Deed.getK hRw 1 (by omega))
  have sf := fun i => S.out.r.frozen i
  have slt := S.out.r.lt
  have S2 := lh (S.out.set (r' := { dz with kind := o.kind, text := o.text }) (s' := wz) 62 (.string (str o.text)) (by rw [HR.out]; exact Deed.setT (o := { dz with kind := o.kind }) ⟨rfl, rfl⟩ o.text))
  have rs := dcs HF.out.wf S2.out.o
  go_wp2_with (with_reducible refine slG 34 (.tmp 3) rfl ?_)
  replace S := S2
  clear s9 sf slt S2 rs
  refine Stop.mk (wlG (by rfl) _ _ rfl g 0 rfl _ S.out.r.all strOpR (Deed.arr_size ⟨rfl, rfl⟩) ?_)
  go_wp2_with (with_reducible refine slG 34 (.tmp 1) rfl ?_)
  refine Stop.mk (wlG (by rfl) _ _ rfl w.heap.size 0 rfl _ S.out.o.all strOpR (Deed.arr_size HF.out.wf) ?_)
  go_wp2_with (fail)
  refine (c_ref47_Same { dz with kind := o.kind, text := o.text } o wz q _ ⟨rfl, rfl⟩ HF.out.wf ⟨In.nil (by simp), In.nil (by simp)⟩ (HQ.out.below S.out.below)).mono ?_
  rintro e w3 ⟨rfl, hb3⟩
  go_wp2_with (fail)
  go_ret
  exact RetV.bool HK.out.symm (S.out.below.trans (hb3.mono S.out.below.size))
set_option maxHeartbeats 40000000 in
set_option maxRecDepth 10000 in
theorem ref47_Check_T0 (o : Deed) (q : Where) (w : World) (ho : o.fit) (hq : o.at_ w q) (hk : o.kind = 12) (hl : ¬ o.text.length ≤ 4096) : Calls Tryd.prog 10 #[.agg (o.arr q)] w (RetV w (.bool o.ok)) := by
  have FN : dN o.kind = false := by unfold dN; simp; omega
  have FD : dD o.kind = false := by unfold dD; simp; omega
  have j1 : (o.kind == 1) = false := by simp; omega
  have j3 : (o.kind == 3) = false := by simp; omega
  have j5 : (o.kind == 5) = false := by simp; omega
  have j11 : (o.kind == 11) = false := by simp; omega
  have j12 : (o.kind == 12) = true := by simp; omega
  have d1 : decide (1 ≤ o.kind) = true := by simp; omega
  have d1' : decide (o.kind < 1) = false := by simp; omega
  have d2 : decide (o.kind ≤ 12) = true := by simp; omega
  have d2' : decide (12 < o.kind) = false := by simp; omega
  have tb : decide ((o.text.length : Int) ≤ 4096) = false := by simp; omega
  have tb' : decide (4096 < (o.text.length : Int)) = true := by simp; omega
  have HK := lh (show o.ok = false by rw [ok_T hk, decide_eq_false hl]; first | rfl | simp)
  clear hl
  have HF := lh ho
  have HQ := lh hq
  obtain ⟨R, hR⟩ : ∃ R : Deed, R = { dz with kind := o.kind } := ⟨_, rfl⟩
  have hRw : R.wf := by rw [hR]; exact ⟨rfl, rfl⟩
  have HR := lh hR
  refine rkHead rfl o q w _ ho ?_
  intro w1 g v S0
  have S := lh (show XC w w1 o R q wz g by rw [hR]; exact S0)
  clear S0 ho hq hk hR
  have ps := dcs HF.out.wf S.out.o
  go_wp2_with (fail)
  clear ps
  refine numS S HF FN fun _ S ps => ?_
  go_wp2_with (fail)
  clear ps
  refine devS S HF FD fun _ S ps => ?_
  have s9 := S.out.r.cell (Deed.getK hRw 1 (by omega))
  have sf := fun i => S.out.r.frozen i
  have slt := S.out.r.lt
  have S2 := lh (S.out.set (r' := { dz with kind := o.kind, text := o.text }) (s' := wz) 62 (.string (str o.text)) (by rw [HR.out]; exact Deed.setT (o := { dz with kind := o.kind }) ⟨rfl, rfl⟩ o.text))
  have rs := dcs HF.out.wf S2.out.o
  go_wp2_with (fail)
  replace S := S2
  clear s9 sf slt S2 rs
  go_ret
  exact RetV.bool HK.out.symm S.out.below
end Go.Proofs.YtiedkcijjfmhaaaDoor
