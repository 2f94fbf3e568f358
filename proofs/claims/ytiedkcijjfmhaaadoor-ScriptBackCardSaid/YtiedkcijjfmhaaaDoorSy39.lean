/-
  The walk of the reference's Check of acts, a class of kinds. (Printed by gen47j.py.)
-/
import Derived.Test.YtiedkcijjfmhaaaDoorSy22
import Derived.Test.YtiedkcijjfmhaaaDoorSy23
import Derived.Test.YtiedkcijjfmhaaaDoorSy29
namespace Go.Proofs.YtiedkcijjfmhaaaDoor
open Go.RowKit

set_option maxHeartbeats 40000000 in
set_option maxRecDepth 10000 in
theorem ref47_Check_D1 (o : Deed) (q : Where) (w : World) (ho : o.fit) (hq : o.at_ w q) (hk : o.kind = 4 ∨ o.kind = 6) (h0 : 0 ≤ o.dev) (h1 : o.dev ≤ 5) : Calls Tryd.prog 10 #[.agg (o.arr q)] w (RetV w (.bool o.ok)) := by
  have FN : dN o.kind = false := by unfold dN; simp; omega
  have FD : dD o.kind = true := by unfold dD; simp; omega
  have j1 : (o.kind == 1) = false := by simp; omega
  have j3 : (o.kind == 3) = false := by simp; omega
  have j5 : (o.kind == 5) = false := by simp; omega
  have j11 : (o.kind == 11) = false := by simp; omega
  have j12 : (o.kind == 12) = false := by simp; omega
  have d1 : decide (1 ≤ o.kind) = true := by simp; omega
  have d1' : decide (o.kind < 1) = false := by simp; omega
  have d2 : decide (o.kind ≤ 12) = true := by simp; omega
  have d2' : decide (12 < o.kind) = false := by simp; omega
  have t1 : decide (0 ≤ o.dev) = true := by simp; omega
  have t1' : decide (o.dev < 0) = false := by simp; omega
  have t2 : decide (o.dev < 6) = true := by simp; omega
  have t2' : decide (6 ≤ o.dev) = false := by simp; omega
  have hl : (0 ≤ o.dev ∧ o.dev ≤ 5) := ⟨h0, h1⟩
  have HK := lh (show o.ok = decide (({ dz with kind := o.kind, dev := o.dev } : Deed) = o) by rw [ok_D hk, decide_eq_true hl]; first | rfl | simp)
  clear hl
  clear h0 h1
  have HF := lh ho
  have HQ := lh hq
  obtain ⟨R, hR⟩ : ∃ R : Deed, R = { dz with kind := o.kind } := ⟨_, rfl⟩
  have hRw : R.wf := by rw [hR]; exact ⟨rfl, rfl⟩
  have HR := lh hR
  refine rkHead rfl o q w _ ho ?_
  intro w1 g v S0
  have S := lh (show XC w w1 o R q wz g by rw [hR]; exact S0)
  clear S0 ho hq hk hR
  have ps := dcs HF.out.wf S.out.o
  go_wp2_with (fail)
  clear ps
  refine numS S HF FN fun _ S ps => ?_
  go_wp2_with (fail)
  clear ps
  refine devS S HF FD fun _ S ps => ?_
  have s9 := S.out.r.cell (Deed.getI 2 (by omega))
  have sf := fun i => S.out.r.frozen i
  have slt := S.out.r.lt
  have S2 := lh (S.out.devS HR.out)
  have rs := dcs HF.out.wf S2.out.o
  go_wp2_with (with_reducible refine slG 34 (.tmp 3) rfl ?_)
  replace S := S2
  clear s9 sf slt S2 rs
  refine Stop.mk (wlG (by rfl) _ _ rfl g 0 rfl _ S.out.r.all strOpR (Deed.arr_size ⟨rfl, rfl⟩) ?_)
  go_wp2_with (with_reducible refine slG 34 (.tmp 1) rfl ?_)
  refine Stop.mk (wlG (by rfl) _ _ rfl w.heap.size 0 rfl _ S.out.o.all strOpR (Deed.arr_size HF.out.wf) ?_)
  go_wp2_with (fail)
  refine (c_ref47_Same { dz with kind := o.kind, dev := o.dev } o wz q _ ⟨rfl, rfl⟩ HF.out.wf ⟨In.nil (by simp), In.nil (by simp)⟩ (HQ.out.below S.out.below)).mono ?_
  rintro e w3 ⟨rfl, hb3⟩
  go_wp2_with (fail)
  go_ret
  exact RetV.bool HK.out.symm (S.out.below.trans (hb3.mono S.out.below.size))
set_option maxHeartbeats 40000000 in
set_option maxRecDepth 10000 in
theorem ref47_Check_D2 (o : Deed) (q : Where) (w : World) (ho : o.fit) (hq : o.at_ w q) (hk : o.kind = 4 ∨ o.kind = 6) (h0 : 0 ≤ o.dev) (h1 : ¬ o.dev ≤ 5) : Calls Tryd.prog 10 #[.agg (o.arr q)] w (RetV w (.bool o.ok)) := by
  have FN : dN o.kind = false := by unfold dN; simp; omega
  have FD : dD o.kind = true := by unfold dD; simp; omega
  have j1 : (o.kind == 1) = false := by simp; omega
  have j3 : (o.kind == 3) = false := by simp; omega
  have j5 : (o.kind == 5) = false := by simp; omega
  have j11 : (o.kind == 11) = false := by simp; omega
  have j12 : (o.kind == 12) = false := by simp; omega
  have d1 : decide (1 ≤ o.kind) = true := by simp; omega
  have d1' : decide (o.kind < 1) = false := by simp; omega
  have d2 : decide (o.kind ≤ 12) = true := by simp; omega
  have d2' : decide (12 < o.kind) = false := by simp; omega
  have t1 : decide (0 ≤ o.dev) = true := by simp; omega
  have t1' : decide (o.dev < 0) = false := by simp; omega
  have t2 : decide (o.dev < 6) = false := by simp; omega
  have t2' : decide (6 ≤ o.dev) = true := by simp; omega
  have hl : ¬ (0 ≤ o.dev ∧ o.dev ≤ 5) := by omega
  have HK := lh (show o.ok = false by rw [ok_D hk, decide_eq_false hl]; first | rfl | simp)
  clear hl
  clear h0 h1
  have HF := lh ho
  have HQ := lh hq
  obtain ⟨R, hR⟩ : ∃ R : Deed, R = { dz with kind := o.kind } := ⟨_, rfl⟩
  have hRw : R.wf := by rw [hR]; exact ⟨rfl, rfl⟩
  have HR := lh hR
  refine rkHead rfl o q w _ ho ?_
  intro w1 g v S0
  have S := lh (show XC w w1 o R q wz g by rw [hR]; exact S0)
  clear S0 ho hq hk hR
  have ps := dcs HF.out.wf S.out.o
  go_wp2_with (fail)
  clear ps
  refine numS S HF FN fun _ S ps => ?_
  go_wp2_with (fail)
  clear ps
  refine devS S HF FD fun _ S ps => ?_
  have s9 := S.out.r.cell (Deed.getI 2 (by omega))
  have sf := fun i => S.out.r.frozen i
  have slt := S.out.r.lt
  have S2 := lh (S.out.devS HR.out)
  have rs := dcs HF.out.wf S2.out.o
  go_wp2_with (fail)
  replace S := S2
  clear s9 sf slt S2 rs
  go_ret
  exact RetV.bool HK.out.symm S.out.below
set_option maxHeartbeats 40000000 in
set_option maxRecDepth 10000 in
theorem ref47_Check_D3 (o : Deed) (q : Where) (w : World) (ho : o.fit) (hq : o.at_ w q) (hk : o.kind = 4 ∨ o.kind = 6) (h0 : ¬ 0 ≤ o.dev) : Calls Tryd.prog 10 #[.agg (o.arr q)] w (RetV w (.bool o.ok)) := by
  have FN : dN o.kind = false := by unfold dN; simp; omega
  have FD : dD o.kind = true := by unfold dD; simp; omega
  have j1 : (o.kind == 1) = false := by simp; omega
  have j3 : (o.kind == 3) = false := by simp; omega
  have j5 : (o.kind == 5) = false := by simp; omega
  have j11 : (o.kind == 11) = false := by simp; omega
  have j12 : (o.kind == 12) = false := by simp; omega
  have d1 : decide (1 ≤ o.kind) = true := by simp; omega
  have d1' : decide (o.kind < 1) = false := by simp; omega
  have d2 : decide (o.kind ≤ 12) = true := by simp; omega
  have d2' : decide (12 < o.kind) = false := by simp; omega
  have t1 : decide (0 ≤ o.dev) = false := by simp; omega
  have t1' : decide (o.dev < 0) = true := by simp; omega
  have hl : ¬ (0 ≤ o.dev ∧ o.dev ≤ 5) := by omega
  have HK := lh (show o.ok = false by rw [ok_D hk, decide_eq_false hl]; first | rfl | simp)
  clear hl
  clear h0
  have HF := lh ho
  have HQ := lh hq
  obtain ⟨R, hR⟩ : ∃ R : Deed, R = { dz with kind := o.kind } := ⟨_, rfl⟩
  have hRw : R.wf := by rw [hR]; exact ⟨rfl, rfl⟩
  have HR := lh hR
  refine rkHead rfl o q w _ ho ?_
  intro w1 g v S0
  have S := lh (show XC w w1 o R q wz g by rw [hR]; exact S0)
  clear S0 ho hq hk hR
  have ps := dcs HF.out.wf S.out.o
  go_wp2_with (fail)
  clear ps
  refine numS S HF FN fun _ S ps => ?_
  go_wp2_with (fail)
  clear ps
  refine devS S HF FD fun _ S ps => ?_
  have s9 := S.out.r.cell (Deed.getI 2 (by omega))
  have sf := fun i => S.out.r.frozen i
  have slt := S.out.r.lt
  have S2 := lh (S.out.devS HR.out)
  have rs := dcs HF.out.wf S2.out.o
  go_wp2_with (fail)
  replace S := S2
  clear s9 sf slt S2 rs
  go_ret
  exact RetV.bool HK.out.symm S.out.below
set_option maxHeartbeats 40000000 in
set_option maxRecDepth 10000 in
theorem ref47_Check_E1 (o : Deed) (q : Where) (w : World) (ho : o.fit) (hq : o.at_ w q) (hk : o.kind = 1) (hl : o.e.code = 0) : Calls Tryd.prog 10 #[.agg (o.arr q)] w (RetV w (.bool o.ok)) := by
  have FN : dN o.kind = false := by unfold dN; simp; omega
  have FD : dD o.kind = false := by unfold dD; simp; omega
  have j1 : (o.kind == 1) = true := by simp; omega
  have j3 : (o.kind == 3) = false := by simp; omega
  have j5 : (o.kind == 5) = false := by simp; omega
  have j11 : (o.kind == 11) = false := by simp; omega
  have j12 : (o.kind == 12) = false := by simp; omega
  have d1 : decide (1 ≤ o.kind) = true := by simp; omega
  have d1' : decide (o.kind < 1) = false := by simp; omega
  have d2 : decide (o.kind ≤ 12) = true := by simp; omega
  have d2' : decide (12 < o.kind) = false := by simp; omega
  have tb : (o.e.code == 0) = true := by simpa using hl
  have HK := lh (show o.ok = decide (({ dz with kind := o.kind, e := o.e } : Deed) = o) by rw [ok_E hk, decide_eq_true hl]; first | rfl | simp)
  clear hl
  have HF := lh ho
  have HQ := lh hq
  obtain ⟨R, hR⟩ : ∃ R : Deed, R = { dz with kind := o.kind } := ⟨_, rfl⟩
  have hRw : R.wf := by rw [hR]; exact ⟨rfl, rfl⟩
  have HR := lh hR
  refine rkHead rfl o q w _ ho ?_
  intro w1 g v S0
  have S := lh (show XC w w1 o R q wz g by rw [hR]; exact S0)
  clear S0 ho hq hk hR
  have ps := dcs HF.out.wf S.out.o
  go_wp2_with (fail)
  clear ps
  refine numS S HF FN fun _ S ps => ?_
  go_wp2_with (fail)
  clear ps
  refine devS S HF FD fun _ S ps => ?_
  go_wp2_with (with_reducible refine slG 30 (.tmp 55) rfl ?_)
  refine Stop.mk (wlG (by rfl) _ _ rfl w.heap.size 4 rfl o.e.arr (deed_edit HF.out.wf S.out.o) strE (by rw [Edit.arr_size, HF.out.wf.e]) ?_)
  go_wp2_with (with_reducible refine stS 30 (.tmp 57) (.tmp 56) rfl rfl ?_)
  refine Stop.mk (wpList_storeAt rfl _ _ _ rfl g 4 o.e.arr rfl rfl _ S.out.r strE (by rw [Edit.arr_size, HF.out.wf.e]) (by rw [Edit.arr_size, HF.out.wf.e, Deed.arr_size hRw]; decide) (Edit.arr_one o.e) ?_)
  intro w3 hb3 hk3
  replace S := lh (S.out.put (r' := { dz with kind := o.kind, e := o.e }) (s' := wz) hk3 (by have := Deed.putE (q := wz) hRw o.e HF.out.wf.e; rw [this] at hb3; rw [HR.out] at hb3; exact hb3))
  clear hb3 hk3 ps
  have ps := dcs HF.out.wf S.out.o
  go_wp2_with (with_reducible refine slG 30 (.tmp 60) rfl ?_)
  refine Stop.mk (wlG (by rfl) _ _ rfl w.heap.size 4 rfl o.e.arr (deed_edit HF.out.wf S.out.o) strE (by rw [Edit.arr_size, HF.out.wf.e]) ?_)
  go_wp2_with (fail)
  refine (c_ref19_Check o.e _ HF.out.wf.e HF.out.es HF.out.em).mono ?_
  rintro e w4 ⟨rfl, hb4⟩
  replace S := lh (S.out.step hb4)
  clear hb4 ps
  have ps := dcs HF.out.wf S.out.o
  go_wp2_with (with_reducible refine slG 34 (.tmp 3) rfl ?_)
  refine Stop.mk (wlG (by rfl) _ _ rfl g 0 rfl _ S.out.r.all strOpR (Deed.arr_size ⟨HF.out.wf.e, rfl⟩) ?_)
  go_wp2_with (with_reducible refine slG 34 (.tmp 1) rfl ?_)
  refine Stop.mk (wlG (by rfl) _ _ rfl w.heap.size 0 rfl _ S.out.o.all strOpR (Deed.arr_size HF.out.wf) ?_)
  go_wp2_with (fail)
  refine (c_ref47_Same { dz with kind := o.kind, e := o.e } o wz q _ ⟨HF.out.wf.e, rfl⟩ HF.out.wf ⟨In.nil (by simp), In.nil (by simp)⟩ (HQ.out.below S.out.below)).mono ?_
  rintro e w3 ⟨rfl, hb3⟩
  go_wp2_with (fail)
  go_ret
  exact RetV.bool HK.out.symm (S.out.below.trans (hb3.mono S.out.below.size))
set_option maxHeartbeats 40000000 in
set_option maxRecDepth 10000 in
theorem ref47_Check_E0 (o : Deed) (q : Where) (w : World) (ho : o.fit) (hq : o.at_ w q) (hk : o.kind = 1) (hl : ¬ o.e.code = 0) : Calls Tryd.prog 10 #[.agg (o.arr q)] w (RetV w (.bool o.ok)) := by
  have FN : dN o.kind = false := by unfold dN; simp; omega
  have FD : dD o.kind = false := by unfold dD; simp; omega
  have j1 : (o.kind == 1) = true := by simp; omega
  have j3 : (o.kind == 3) = false := by simp; omega
  have j5 : (o.kind == 5) = false := by simp; omega
  have j11 : (o.kind == 11) = false := by simp; omega
  have j12 : (o.kind == 12) = false := by simp; omega
  have d1 : decide (1 ≤ o.kind) = true := by simp; omega
  have d1' : decide (o.kind < 1) = false := by simp; omega
  have d2 : decide (o.kind ≤ 12) = true := by simp; omega
  have d2' : decide (12 < o.kind) = false := by simp; omega
  have tb : (o.e.code == 0) = false := by simpa using hl
  have HK := lh (show o.ok = false by rw [ok_E hk, decide_eq_false hl]; first | rfl | simp)
  clear hl
  have HF := lh ho
  have HQ := lh hq
  obtain ⟨R, hR⟩ : ∃ R : Deed, R = { dz with kind := o.kind } := ⟨_, rfl⟩
  have hRw : R.wf := by rw [hR]; exact ⟨rfl, rfl⟩
  have HR := lh hR
  refine rkHead rfl o q w _ ho ?_
  intro w1 g v S0
  have S := lh (show XC w w1 o R q wz g by rw [hR]; exact S0)
  clear S0 ho hq hk hR
  have ps := dcs HF.out.wf S.out.o
  go_wp2_with (fail)
  clear ps
  refine numS S HF FN fun _ S ps => ?_
  go_wp2_with (fail)
  clear ps
  refine devS S HF FD fun _ S ps => ?_
  go_wp2_with (with_reducible refine slG 30 (.tmp 55) rfl ?_)
  refine Stop.mk (wlG (by rfl) _ _ rfl w.heap.size 4 rfl o.e.arr (deed_edit HF.out.wf S.out.o) strE (by rw [Edit.arr_size, HF.out.wf.e]) ?_)
  go_wp2_with (with_reducible refine stS 30 (.tmp 57) (.tmp 56) rfl rfl ?_)
  refine Stop.mk (wpList_storeAt rfl _ _ _ rfl g 4 o.e.arr rfl rfl _ S.out.r strE (by rw [Edit.arr_size, HF.out.wf.e]) (by rw [Edit.arr_size, HF.out.wf.e, Deed.arr_size hRw]; decide) (Edit.arr_one o.e) ?_)
  intro w3 hb3 hk3
  replace S := lh (S.out.put (r' := { dz with kind := o.kind, e := o.e }) (s' := wz) hk3 (by have := Deed.putE (q := wz) hRw o.e HF.out.wf.e; rw [this] at hb3; rw [HR.out] at hb3; exact hb3))
  clear hb3 hk3 ps
  have ps := dcs HF.out.wf S.out.o
  go_wp2_with (with_reducible refine slG 30 (.tmp 60) rfl ?_)
  refine Stop.mk (wlG (by rfl) _ _ rfl w.heap.size 4 rfl o.e.arr (deed_edit HF.out.wf S.out.o) strE (by rw [Edit.arr_size, HF.out.wf.e]) ?_)
  go_wp2_with (fail)
  refine (c_ref19_Check o.e _ HF.out.wf.e HF.out.es HF.out.em).mono ?_
  rintro e w4 ⟨rfl, hb4⟩
  replace S := lh (S.out.step hb4)
  clear hb4 ps
  have ps := dcs HF.out.wf S.out.o
  go_wp2_with (fail)
  go_ret
  exact RetV.bool HK.out.symm S.out.below
end Go.Proofs.YtiedkcijjfmhaaaDoor
