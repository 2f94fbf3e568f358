/-
  The walk of the reference's Check of acts, a class of kinds. (Printed by gen47j.py.)
-/
import Derived.Test.YtiedkcijjfmhaaaDoorSy7
import Derived.Test.YtiedkcijjfmhaaaDoorSy26
import Derived.Test.YtiedkcijjfmhaaaDoorSy29
namespace Go.Proofs.YtiedkcijjfmhaaaDoor
open Go.RowKit

set_option maxHeartbeats 40000000 in
set_option maxRecDepth 10000 in
theorem ref47_Check_Fa1 (o : Deed) (q : Where) (w : World) (ho : o.fit) (hq : o.at_ w q) (hk : o.kind = 3) (h0 : 0 ≤ o.dev) (h1 : o.dev ≤ 5) (g0 : check o.f = 0) (g1 : o.mask < 512) : Calls Tryd.prog 10 #[.agg (o.arr q)] w (RetV w (.bool o.ok)) := by
  have FN : dN o.kind = false := by unfold dN; simp; omega
  have FD : dD o.kind = true := by unfold dD; simp; omega
  have j1 : (o.kind == 1) = false := by simp; omega
  have j3 : (o.kind == 3) = true := by simp; omega
  have j5 : (o.kind == 5) = false := by simp; omega
  have j11 : (o.kind == 11) = false := by simp; omega
  have j12 : (o.kind == 12) = false := by simp; omega
  have d1 : decide (1 ≤ o.kind) = true := by simp; omega
  have d1' : decide (o.kind < 1) = false := by simp; omega
  have d2 : decide (o.kind ≤ 12) = true := by simp; omega
  have d2' : decide (12 < o.kind) = false := by simp; omega
  have t1 : decide (0 ≤ o.dev) = true := by simp; omega
  have t1' : decide (o.dev < 0) = false := by simp; omega
  have t2 : decide (o.dev < 6) = true := by simp; omega
  have t2' : decide (6 ≤ o.dev) = false := by simp; omega
  have m1 : (check o.f == 0) = true := by simpa using g0
  have m2 : decide (o.mask ≤ 511) = true := by simp; omega
  have HK := lh (show o.ok = decide (({ dz with kind := o.kind, dev := o.dev, f := o.f, mask := o.mask } : Deed) = o) by rw [ok_F hk, decide_eq_true (show 0 ≤ o.dev ∧ o.dev ≤ 5 from ⟨h0, h1⟩), decide_eq_true (show check o.f = 0 ∧ o.mask < 512 from ⟨g0, g1⟩)]; first | rfl | simp)
  clear h0 g0 h1 g1
  have HF := lh ho
  have HQ := lh hq
  obtain ⟨R, hR⟩ : ∃ R : Deed, R = { dz with kind := o.kind } := ⟨_, rfl⟩
  have hRw : R.wf := by rw [hR]; exact ⟨rfl, rfl⟩
  have HR := lh hR
  refine rkHead rfl o q w _ ho ?_
  intro w1 g v S0
  have S := lh (show XC w w1 o R q wz g by rw [hR]; exact S0)
  clear S0 ho hq hk hR
  have ps := dcs HF.out.wf S.out.o
  go_wp2_with (fail)
  clear ps
  refine numS S HF FN fun _ S ps => ?_
  go_wp2_with (fail)
  clear ps
  refine devS S HF FD fun _ S ps => ?_
  have s9 := S.out.r.cell (Deed.getI 2 (by omega))
  have sf := fun i => S.out.r.frozen i
  have slt := S.out.r.lt
  have S2 := lh (S.out.devS HR.out)
  have rs := dcs HF.out.wf S2.out.o
  have s9' := S2.out.r.cell (Deed.getF ⟨rfl, rfl⟩ 0 (by omega))
  have sf' := fun i => S2.out.r.frozen i
  have slt' := S2.out.r.lt
  have S3 := lh (S2.out.set (r' := { dz with kind := o.kind, dev := o.dev, f := o.f }) (s' := ⟨q.A, q.n, none, 0⟩) 33 (.slice q.A o.f.length q.n) (Deed.setF (o := { dz with kind := o.kind, dev := o.dev }) (q := wz) ⟨rfl, rfl⟩ q.A o.f q.n))
  have us := dcs HF.out.wf S3.out.o
  have s9'' := S3.out.r.cell (Deed.getF ⟨rfl, rfl⟩ 1 (by omega))
  have sf'' := fun i => S3.out.r.frozen i
  have slt'' := S3.out.r.lt
  have S4 := lh (S3.out.set (r' := { dz with kind := o.kind, dev := o.dev, f := o.f, mask := o.mask }) (s' := ⟨q.A, q.n, none, 0⟩) 34 (.int .u32 o.mask) (Deed.setM (o := { dz with kind := o.kind, dev := o.dev, f := o.f }) (q := ⟨q.A, q.n, none, 0⟩) ⟨rfl, rfl⟩ o.mask))
  obtain ⟨v0, v1, v2, v3, v4, v5, v6, v7⟩ := dcs HF.out.wf S4.out.o
  go_wp2_with (fail)
  replace S := S4
  clear s9 sf slt s9' sf' slt' s9'' sf'' slt'' S2 S3 S4 rs us ps
  have ps := dcs HF.out.wf S.out.o
  clear v0 v1 v2 v3 v4 v5 v6 v7
  refine (c_ref10_Check o.f q.A q.n _ (HQ.out.below S.out.below).f (fun x hx => by have := HF.out.fs x hx; omega)).mono ?_
  rintro e w4 ⟨rfl, hb4⟩
  replace S := lh (S.out.step hb4)
  clear hb4 ps
  have ps := dcs HF.out.wf S.out.o
  go_wp2_with (fail)
  refine (c_ref05_Check o.mask _).mono ?_
  rintro e w5 ⟨rfl, hb5⟩
  rw [m2]
  replace S := lh (S.out.step hb5)
  clear hb5 ps
  have ps := dcs HF.out.wf S.out.o
  go_wp2_with (with_reducible refine slG 34 (.tmp 3) rfl ?_)
  refine Stop.mk (wlG (by rfl) _ _ rfl g 0 rfl _ S.out.r.all strOpR (Deed.arr_size ⟨rfl, rfl⟩) ?_)
  go_wp2_with (with_reducible refine slG 34 (.tmp 1) rfl ?_)
  refine Stop.mk (wlG (by rfl) _ _ rfl w.heap.size 0 rfl _ S.out.o.all strOpR (Deed.arr_size HF.out.wf) ?_)
  go_wp2_with (fail)
  refine (c_ref47_Same { dz with kind := o.kind, dev := o.dev, f := o.f, mask := o.mask } o ⟨q.A, q.n, none, 0⟩ q _ ⟨rfl, rfl⟩ HF.out.wf ⟨(HQ.out.below S.out.below).f, In.nil (by simp)⟩ (HQ.out.below S.out.below)).mono ?_
  rintro e w3 ⟨rfl, hb3⟩
  go_wp2_with (fail)
  go_ret
  exact RetV.bool HK.out.symm (S.out.below.trans (hb3.mono S.out.below.size))
set_option maxHeartbeats 40000000 in
set_option maxRecDepth 10000 in
theorem ref47_Check_Fa2 (o : Deed) (q : Where) (w : World) (ho : o.fit) (hq : o.at_ w q) (hk : o.kind = 3) (h0 : 0 ≤ o.dev) (h1 : o.dev ≤ 5) (g0 : check o.f = 0) (g1 : ¬ o.mask < 512) : Calls Tryd.prog 10 #[.agg (o.arr q)] w (RetV w (.bool o.ok)) := by
  have FN : dN o.kind = false := by unfold dN; simp; omega
  have FD : dD o.kind = true := by unfold dD; simp; omega
  have j1 : (o.kind == 1) = false := by simp; omega
  have j3 : (o.kind == 3) = true := by simp; omega
  have j5 : (o.kind == 5) = false := by simp; omega
  have j11 : (o.kind == 11) = false := by simp; omega
  have j12 : (o.kind == 12) = false := by simp; omega
  have d1 : decide (1 ≤ o.kind) = true := by simp; omega
  have d1' : decide (o.kind < 1) = false := by simp; omega
  have d2 : decide (o.kind ≤ 12) = true := by simp; omega
  have d2' : decide (12 < o.kind) = false := by simp; omega
  have t1 : decide (0 ≤ o.dev) = true := by simp; omega
  have t1' : decide (o.dev < 0) = false := by simp; omega
  have t2 : decide (o.dev < 6) = true := by simp; omega
  have t2' : decide (6 ≤ o.dev) = false := by simp; omega
  have m1 : (check o.f == 0) = true := by simpa using g0
  have m2 : decide (o.mask ≤ 511) = false := by simp; omega
  have HK := lh (show o.ok = false by rw [ok_F hk, decide_eq_true (show 0 ≤ o.dev ∧ o.dev ≤ 5 from ⟨h0, h1⟩), decide_eq_false (show ¬ (check o.f = 0 ∧ o.mask < 512) from fun e => by exact g1 e.2)]; first | rfl | simp)
  clear h0 g0 h1 g1
  have HF := lh ho
  have HQ := lh hq
  obtain ⟨R, hR⟩ : ∃ R : Deed, R = { dz with kind := o.kind } := ⟨_, rfl⟩
  have hRw : R.wf := by rw [hR]; exact ⟨rfl, rfl⟩
  have HR := lh hR
  refine rkHead rfl o q w _ ho ?_
  intro w1 g v S0
  have S := lh (show XC w w1 o R q wz g by rw [hR]; exact S0)
  clear S0 ho hq hk hR
  have ps := dcs HF.out.wf S.out.o
  go_wp2_with (fail)
  clear ps
  refine numS S HF FN fun _ S ps => ?_
  go_wp2_with (fail)
  clear ps
  refine devS S HF FD fun _ S ps => ?_
  have s9 := S.out.r.cell (Deed.getI 2 (by omega))
  have sf := fun i => S.out.r.frozen i
  have slt := S.out.r.lt
  have S2 := lh (S.out.devS HR.out)
  have rs := dcs HF.out.wf S2.out.o
  have s9' := S2.out.r.cell (Deed.getF ⟨rfl, rfl⟩ 0 (by omega))
  have sf' := fun i => S2.out.r.frozen i
  have slt' := S2.out.r.lt
  have S3 := lh (S2.out.set (r' := { dz with kind := o.kind, dev := o.dev, f := o.f }) (s' := ⟨q.A, q.n, none, 0⟩) 33 (.slice q.A o.f.length q.n) (Deed.setF (o := { dz with kind := o.kind, dev := o.dev }) (q := wz) ⟨rfl, rfl⟩ q.A o.f q.n))
  have us := dcs HF.out.wf S3.out.o
  have s9'' := S3.out.r.cell (Deed.getF ⟨rfl, rfl⟩ 1 (by omega))
  have sf'' := fun i => S3.out.r.frozen i
  have slt'' := S3.out.r.lt
  have S4 := lh (S3.out.set (r' := { dz with kind := o.kind, dev := o.dev, f := o.f, mask := o.mask }) (s' := ⟨q.A, q.n, none, 0⟩) 34 (.int .u32 o.mask) (Deed.setM (o := { dz with kind := o.kind, dev := o.dev, f := o.f }) (q := ⟨q.A, q.n, none, 0⟩) ⟨rfl, rfl⟩ o.mask))
  obtain ⟨v0, v1, v2, v3, v4, v5, v6, v7⟩ := dcs HF.out.wf S4.out.o
  go_wp2_with (fail)
  replace S := S4
  clear s9 sf slt s9' sf' slt' s9'' sf'' slt'' S2 S3 S4 rs us ps
  have ps := dcs HF.out.wf S.out.o
  clear v0 v1 v2 v3 v4 v5 v6 v7
  refine (c_ref10_Check o.f q.A q.n _ (HQ.out.below S.out.below).f (fun x hx => by have := HF.out.fs x hx; omega)).mono ?_
  rintro e w4 ⟨rfl, hb4⟩
  replace S := lh (S.out.step hb4)
  clear hb4 ps
  have ps := dcs HF.out.wf S.out.o
  go_wp2_with (fail)
  refine (c_ref05_Check o.mask _).mono ?_
  rintro e w5 ⟨rfl, hb5⟩
  rw [m2]
  replace S := lh (S.out.step hb5)
  clear hb5 ps
  have ps := dcs HF.out.wf S.out.o
  go_wp2_with (fail)
  go_ret
  exact RetV.bool HK.out.symm S.out.below
set_option maxHeartbeats 40000000 in
set_option maxRecDepth 10000 in
theorem ref47_Check_Fa3 (o : Deed) (q : Where) (w : World) (ho : o.fit) (hq : o.at_ w q) (hk : o.kind = 3) (h0 : 0 ≤ o.dev) (h1 : o.dev ≤ 5) (g0 : ¬ check o.f = 0) : Calls Tryd.prog 10 #[.agg (o.arr q)] w (RetV w (.bool o.ok)) := by
  have FN : dN o.kind = false := by unfold dN; simp; omega
  have FD : dD o.kind = true := by unfold dD; simp; omega
  have j1 : (o.kind == 1) = false := by simp; omega
  have j3 : (o.kind == 3) = true := by simp; omega
  have j5 : (o.kind == 5) = false := by simp; omega
  have j11 : (o.kind == 11) = false := by simp; omega
  have j12 : (o.kind == 12) = false := by simp; omega
  have d1 : decide (1 ≤ o.kind) = true := by simp; omega
  have d1' : decide (o.kind < 1) = false := by simp; omega
  have d2 : decide (o.kind ≤ 12) = true := by simp; omega
  have d2' : decide (12 < o.kind) = false := by simp; omega
  have t1 : decide (0 ≤ o.dev) = true := by simp; omega
  have t1' : decide (o.dev < 0) = false := by simp; omega
  have t2 : decide (o.dev < 6) = true := by simp; omega
  have t2' : decide (6 ≤ o.dev) = false := by simp; omega
  have m1 : (check o.f == 0) = false := by simpa using g0
  have HK := lh (show o.ok = false by rw [ok_F hk, decide_eq_true (show 0 ≤ o.dev ∧ o.dev ≤ 5 from ⟨h0, h1⟩), decide_eq_false (show ¬ (check o.f = 0 ∧ o.mask < 512) from fun e => by exact g0 e.1)]; first | rfl | simp)
  clear h0 g0 h1
  have HF := lh ho
  have HQ := lh hq
  obtain ⟨R, hR⟩ : ∃ R : Deed, R = { dz with kind := o.kind } := ⟨_, rfl⟩
  have hRw : R.wf := by rw [hR]; exact ⟨rfl, rfl⟩
  have HR := lh hR
  refine rkHead rfl o q w _ ho ?_
  intro w1 g v S0
  have S := lh (show XC w w1 o R q wz g by rw [hR]; exact S0)
  clear S0 ho hq hk hR
  have ps := dcs HF.out.wf S.out.o
  go_wp2_with (fail)
  clear ps
  refine numS S HF FN fun _ S ps => ?_
  go_wp2_with (fail)
  clear ps
  refine devS S HF FD fun _ S ps => ?_
  have s9 := S.out.r.cell (Deed.getI 2 (by omega))
  have sf := fun i => S.out.r.frozen i
  have slt := S.out.r.lt
  have S2 := lh (S.out.devS HR.out)
  have rs := dcs HF.out.wf S2.out.o
  have s9' := S2.out.r.cell (Deed.getF ⟨rfl, rfl⟩ 0 (by omega))
  have sf' := fun i => S2.out.r.frozen i
  have slt' := S2.out.r.lt
  have S3 := lh (S2.out.set (r' := { dz with kind := o.kind, dev := o.dev, f := o.f }) (s' := ⟨q.A, q.n, none, 0⟩) 33 (.slice q.A o.f.length q.n) (Deed.setF (o := { dz with kind := o.kind, dev := o.dev }) (q := wz) ⟨rfl, rfl⟩ q.A o.f q.n))
  have us := dcs HF.out.wf S3.out.o
  have s9'' := S3.out.r.cell (Deed.getF ⟨rfl, rfl⟩ 1 (by omega))
  have sf'' := fun i => S3.out.r.frozen i
  have slt'' := S3.out.r.lt
  have S4 := lh (S3.out.set (r' := { dz with kind := o.kind, dev := o.dev, f := o.f, mask := o.mask }) (s' := ⟨q.A, q.n, none, 0⟩) 34 (.int .u32 o.mask) (Deed.setM (o := { dz with kind := o.kind, dev := o.dev, f := o.f }) (q := ⟨q.A, q.n, none, 0⟩) ⟨rfl, rfl⟩ o.mask))
  obtain ⟨v0, v1, v2, v3, v4, v5, v6, v7⟩ := dcs HF.out.wf S4.out.o
  go_wp2_with (fail)
  replace S := S4
  clear s9 sf slt s9' sf' slt' s9'' sf'' slt'' S2 S3 S4 rs us ps
  have ps := dcs HF.out.wf S.out.o
  clear v0 v1 v2 v3 v4 v5 v6 v7
  refine (c_ref10_Check o.f q.A q.n _ (HQ.out.below S.out.below).f (fun x hx => by have := HF.out.fs x hx; omega)).mono ?_
  rintro e w4 ⟨rfl, hb4⟩
  replace S := lh (S.out.step hb4)
  clear hb4 ps
  have ps := dcs HF.out.wf S.out.o
  go_wp2_with (fail)
  go_ret
  exact RetV.bool HK.out.symm S.out.below
set_option maxHeartbeats 40000000 in
set_option maxRecDepth 10000 in
theorem ref47_Check_Fb1 (o : Deed) (q : Where) (w : World) (ho : o.fit) (hq : o.at_ w q) (hk : o.kind = 3) (h0 : 0 ≤ o.dev) (h1 : ¬ o.dev ≤ 5) (g0 : check o.f = 0) (g1 : o.mask < 512) : Calls Tryd.prog 10 #[.agg (o.arr q)] w (RetV w (.bool o.ok)) := by
  have FN : dN o.kind = false := by unfold dN; simp; omega
  have FD : dD o.kind = true := by unfold dD; simp; omega
  have j1 : (o.kind == 1) = false := by simp; omega
  have j3 : (o.kind == 3) = true := by simp; omega
  have j5 : (o.kind == 5) = false := by simp; omega
  have j11 : (o.kind == 11) = false := by simp; omega
  have j12 : (o.kind == 12) = false := by simp; omega
  have d1 : decide (1 ≤ o.kind) = true := by simp; omega
  have d1' : decide (o.kind < 1) = false := by simp; omega
  have d2 : decide (o.kind ≤ 12) = true := by simp; omega
  have d2' : decide (12 < o.kind) = false := by simp; omega
  have t1 : decide (0 ≤ o.dev) = true := by simp; omega
  have t1' : decide (o.dev < 0) = false := by simp; omega
  have t2 : decide (o.dev < 6) = false := by simp; omega
  have t2' : decide (6 ≤ o.dev) = true := by simp; omega
  have m1 : (check o.f == 0) = true := by simpa using g0
  have m2 : decide (o.mask ≤ 511) = true := by simp; omega
  have HK := lh (show o.ok = false by rw [ok_F hk, decide_eq_false (show ¬ (0 ≤ o.dev ∧ o.dev ≤ 5) by omega), decide_eq_true (show check o.f = 0 ∧ o.mask < 512 from ⟨g0, g1⟩)]; first | rfl | simp)
  clear h0 g0 h1 g1
  have HF := lh ho
  have HQ := lh hq
  obtain ⟨R, hR⟩ : ∃ R : Deed, R = { dz with kind := o.kind } := ⟨_, rfl⟩
  have hRw : R.wf := by rw [hR]; exact ⟨rfl, rfl⟩
  have HR := lh hR
  refine rkHead rfl o q w _ ho ?_
  intro w1 g v S0
  have S := lh (show XC w w1 o R q wz g by rw [hR]; exact S0)
  clear S0 ho hq hk hR
  have ps := dcs HF.out.wf S.out.o
  go_wp2_with (fail)
  clear ps
  refine numS S HF FN fun _ S ps => ?_
  go_wp2_with (fail)
  clear ps
  refine devS S HF FD fun _ S ps => ?_
  have s9 := S.out.r.cell (Deed.getI 2 (by omega))
  have sf := fun i => S.out.r.frozen i
  have slt := S.out.r.lt
  have S2 := lh (S.out.devS HR.out)
  have rs := dcs HF.out.wf S2.out.o
  have s9' := S2.out.r.cell (Deed.getF ⟨rfl, rfl⟩ 0 (by omega))
  have sf' := fun i => S2.out.r.frozen i
  have slt' := S2.out.r.lt
  have S3 := lh (S2.out.set (r' := { dz with kind := o.kind, dev := o.dev, f := o.f }) (s' := ⟨q.A, q.n, none, 0⟩) 33 (.slice q.A o.f.length q.n) (Deed.setF (o := { dz with kind := o.kind, dev := o.dev }) (q := wz) ⟨rfl, rfl⟩ q.A o.f q.n))
  have us := dcs HF.out.wf S3.out.o
  have s9'' := S3.out.r.cell (Deed.getF ⟨rfl, rfl⟩ 1 (by omega))
  have sf'' := fun i => S3.out.r.frozen i
  have slt'' := S3.out.r.lt
  have S4 := lh (S3.out.set (r' := { dz with kind := o.kind, dev := o.dev, f := o.f, mask := o.mask }) (s' := ⟨q.A, q.n, none, 0⟩) 34 (.int .u32 o.mask) (Deed.setM (o := { dz with kind := o.kind, dev := o.dev, f := o.f }) (q := ⟨q.A, q.n, none, 0⟩) ⟨rfl, rfl⟩ o.mask))
  obtain ⟨v0, v1, v2, v3, v4, v5, v6, v7⟩ := dcs HF.out.wf S4.out.o
  go_wp2_with (fail)
  replace S := S4
  clear s9 sf slt s9' sf' slt' s9'' sf'' slt'' S2 S3 S4 rs us ps
  have ps := dcs HF.out.wf S.out.o
  clear v0 v1 v2 v3 v4 v5 v6 v7
  go_ret
  exact RetV.bool HK.out.symm S.out.below
set_option maxHeartbeats 40000000 in
set_option maxRecDepth 10000 in
theorem ref47_Check_Fb2 (o : Deed) (q : Where) (w : World) (ho : o.fit) (hq : o.at_ w q) (hk : o.kind = 3) (h0 : 0 ≤ o.dev) (h1 : ¬ o.dev ≤ 5) (g0 : check o.f = 0) (g1 : ¬ o.mask < 512) : Calls Tryd.prog 10 #[.agg (o.arr q)] w (RetV w (.bool o.ok)) := by
  have FN : dN o.kind = false := by unfold dN; simp; omega
  have FD : dD o.kind = true := by unfold dD; simp; omega
  have j1 : (o.kind == 1) = false := by simp; omega
  have j3 : (o.kind == 3) = true := by simp; omega
  have j5 : (o.kind == 5) = false := by simp; omega
  have j11 : (o.kind == 11) = false := by simp; omega
  have j12 : (o.kind == 12) = false := by simp; omega
  have d1 : decide (1 ≤ o.kind) = true := by simp; omega
  have d1' : decide (o.kind < 1) = false := by simp; omega
  have d2 : decide (o.kind ≤ 12) = true := by simp; omega
  have d2' : decide (12 < o.kind) = false := by simp; omega
  have t1 : decide (0 ≤ o.dev) = true := by simp; omega
  have t1' : decide (o.dev < 0) = false := by simp; omega
  have t2 : decide (o.dev < 6) = false := by simp; omega
  have t2' : decide (6 ≤ o.dev) = true := by simp; omega
  have m1 : (check o.f == 0) = true := by simpa using g0
  have m2 : decide (o.mask ≤ 511) = false := by simp; omega
  have HK := lh (show o.ok = false by rw [ok_F hk, decide_eq_false (show ¬ (0 ≤ o.dev ∧ o.dev ≤ 5) by omega), decide_eq_false (show ¬ (check o.f = 0 ∧ o.mask < 512) from fun e => by exact g1 e.2)]; first | rfl | simp)
  clear h0 g0 h1 g1
  have HF := lh ho
  have HQ := lh hq
  obtain ⟨R, hR⟩ : ∃ R : Deed, R = { dz with kind := o.kind } := ⟨_, rfl⟩
  have hRw : R.wf := by rw [hR]; exact ⟨rfl, rfl⟩
  have HR := lh hR
  refine rkHead rfl o q w _ ho ?_
  intro w1 g v S0
  have S := lh (show XC w w1 o R q wz g by rw [hR]; exact S0)
  clear S0 ho hq hk hR
  have ps := dcs HF.out.wf S.out.o
  go_wp2_with (fail)
  clear ps
  refine numS S HF FN fun _ S ps => ?_
  go_wp2_with (fail)
  clear ps
  refine devS S HF FD fun _ S ps => ?_
  have s9 := S.out.r.cell (Deed.getI 2 (by omega))
  have sf := fun i => S.out.r.frozen i
  have slt := S.out.r.lt
  have S2 := lh (S.out.devS HR.out)
  have rs := dcs HF.out.wf S2.out.o
  have s9' := S2.out.r.cell (Deed.getF ⟨rfl, rfl⟩ 0 (by omega))
  have sf' := fun i => S2.out.r.frozen i
  have slt' := S2.out.r.lt
  have S3 := lh (S2.out.set (r' := { dz with kind := o.kind, dev := o.dev, f := o.f }) (s' := ⟨q.A, q.n, none, 0⟩) 33 (.slice q.A o.f.length q.n) (Deed.setF (o := { dz with kind := o.kind, dev := o.dev }) (q := wz) ⟨rfl, rfl⟩ q.A o.f q.n))
  have us := dcs HF.out.wf S3.out.o
  have s9'' := S3.out.r.cell (Deed.getF ⟨rfl, rfl⟩ 1 (by omega))
  have sf'' := fun i => S3.out.r.frozen i
  have slt'' := S3.out.r.lt
  have S4 := lh (S3.out.set (r' := { dz with kind := o.kind, dev := o.dev, f := o.f, mask := o.mask }) (s' := ⟨q.A, q.n, none, 0⟩) 34 (.int .u32 o.mask) (Deed.setM (o := { dz with kind := o.kind, dev := o.dev, f := o.f }) (q := ⟨q.A, q.n, none, 0⟩) ⟨rfl, rfl⟩ o.mask))
  obtain ⟨v0, v1, v2, v3, v4, v5, v6, v7⟩ := dcs HF.out.wf S4.out.o
  go_wp2_with (fail)
  replace S := S4
  clear s9 sf slt s9' sf' slt' s9'' sf'' slt'' S2 S3 S4 rs us ps
  have ps := dcs HF.out.wf S.out.o
  clear v0 v1 v2 v3 v4 v5 v6 v7
  go_ret
  exact RetV.bool HK.out.symm S.out.below
set_option maxHeartbeats 40000000 in
set_option maxRecDepth 10000 in
theorem ref47_Check_Fb3 (o : Deed) (q : Where) (w : World) (ho : o.fit) (hq : o.at_ w q) (hk : o.kind = 3) (h0 : 0 ≤ o.dev) (h1 : ¬ o.dev ≤ 5) (g0 : ¬ check o.f = 0) : Calls Tryd.prog 10 #[.agg (o.arr q)] w (RetV w (.bool o.ok)) := by
  have FN : dN o.kind = false := by unfold dN; simp; omega
  have FD : dD o.kind = true := by unfold dD; simp; omega
  have j1 : (o.kind == 1) = false := by simp; omega
  have j3 : (o.kind == 3) = true := by simp; omega
  have j5 : (o.kind == 5) = false := by simp; omega
  have j11 : (o.kind == 11) = false := by simp; omega
  have j12 : (o.kind == 12) = false := by simp; omega
  have d1 : decide (1 ≤ o.kind) = true := by simp; omega
  have d1' : decide (o.kind < 1) = false := by simp; omega
  have d2 : decide (o.kind ≤ 12) = true := by simp; omega
  have d2' : decide (12 < o.kind) = false := by simp; omega
  have t1 : decide (0 ≤ o.dev) = true := by simp; omega
  have t1' : decide (o.dev < 0) = false := by simp; omega
  have t2 : decide (o.dev < 6) = false := by simp; omega
  have t2' : decide (6 ≤ o.dev) = true := by simp; omega
  have m1 : (check o.f == 0) = false := by simpa using g0
  have HK := lh (show o.ok = false by rw [ok_F hk, decide_eq_false (show ¬ (0 ≤ o.dev ∧ o.dev ≤ 5) by omega), decide_eq_false (show ¬ (check o.f = 0 ∧ o.mask < 512) from fun e => by exact g0 e.1)]; first | rfl | simp)
  clear h0 g0 h1
  have HF := lh ho
  have HQ := lh hq
  obtain ⟨R, hR⟩ : ∃ R : Deed, R = { dz with kind := o.kind } := ⟨_, rfl⟩
  have hRw : R.wf := by rw [hR]; exact ⟨rfl, rfl⟩
  have HR := lh hR
  refine rkHead rfl o q w _ ho ?_
  intro w1 g v S0
  have S := lh (show XC w w1 o R q wz g by rw [hR]; exact S0)
  clear S0 ho hq hk hR
  have ps := dcs HF.out.wf S.out.o
  go_wp2_with (fail)
  clear ps
  refine numS S HF FN fun _ S ps => ?_
  go_wp2_with (fail)
  clear ps
  refine devS S HF FD fun _ S ps => ?_
  have s9 := S.out.r.cell (Deed.getI 2 (by omega))
  have sf := fun i => S.out.r.frozen i
  have slt := S.out.r.lt
  have S2 := lh (S.out.devS HR.out)
  have rs := dcs HF.out.wf S2.out.o
  have s9' := S2.out.r.cell (Deed.getF ⟨rfl, rfl⟩ 0 (by omega))
  have sf' := fun i => S2.out.r.frozen i
  have slt' := S2.out.r.lt
  have S3 := lh (S2.out.set (r' := { dz with kind := o.kind, dev := o.dev, f := o.f }) (s' := ⟨q.A, q.n, none, 0⟩) 33 (.slice q.A o.f.length q.n) (Deed.setF (o := { dz with kind := o.kind, dev := o.dev }) (q := wz) ⟨rfl, rfl⟩ q.A o.f q.n))
  have us := dcs HF.out.wf S3.out.o
  have s9'' := S3.out.r.cell (Deed.getF ⟨rfl, rfl⟩ 1 (by omega))
  have sf'' := fun i => S3.out.r.frozen i
  have slt'' := S3.out.r.lt
  have S4 := lh (S3.out.set (r' := { dz with kind := o.kind, dev := o.dev, f := o.f, mask := o.mask }) (s' := ⟨q.A, q.n, none, 0⟩) 34 (.int .u32 o.mask) (Deed.setM (o := { dz with kind := o.kind, dev := o.dev, f := o.f }) (q := ⟨q.A, q.n, none, 0⟩) ⟨rfl, rfl⟩ o.mask))
  obtain ⟨v0, v1, v2, v3, v4, v5, v6, v7⟩ := dcs HF.out.wf S4.out.o
  go_wp2_with (fail)
  replace S := S4
  clear s9 sf slt s9' sf' slt' s9'' sf'' slt'' S2 S3 S4 rs us ps
  have ps := dcs HF.out.wf S.out.o
  clear v0 v1 v2 v3 v4 v5 v6 v7
  go_ret
  exact RetV.bool HK.out.symm S.out.below
set_option maxHeartbeats 40000000 in
set_option maxRecDepth 10000 in
theorem ref47_Check_Fc1 (o : Deed) (q : Where) (w : World) (ho : o.fit) (hq : o.at_ w q) (hk : o.kind = 3) (h0 : ¬ 0 ≤ o.dev) (g0 : check o.f = 0) (g1 : o.mask < 512) : Calls Tryd.prog 10 #[.agg (o.arr q)] w (RetV w (.bool o.ok)) := by
  have FN : dN o.kind = false := by unfold dN; simp; omega
  have FD : dD o.kind = true := by unfold dD; simp; omega
  have j1 : (o.kind == 1) = false := by simp; omega
  have j3 : (o.kind == 3) = true := by simp; omega
  have j5 : (o.kind == 5) = false := by simp; omega
  have j11 : (o.kind == 11) = false := by simp; omega
  have j12 : (o.kind == 12) = false := by simp; omega
  have d1 : decide (1 ≤ o.kind) = true := by simp; omega
  have d1' : decide (o.kind < 1) = false := by simp; omega
  have d2 : decide (o.kind ≤ 12) = true := by simp; omega
  have d2' : decide (12 < o.kind) = false := by simp; omega
  have t1 : decide (0 ≤ o.dev) = false := by simp; omega
  have t1' : decide (o.dev < 0) = true := by simp; omega
  have m1 : (check o.f == 0) = true := by simpa using g0
  have m2 : decide (o.mask ≤ 511) = true := by simp; omega
  have HK := lh (show o.ok = false by rw [ok_F hk, decide_eq_false (show ¬ (0 ≤ o.dev ∧ o.dev ≤ 5) by omega), decide_eq_true (show check o.f = 0 ∧ o.mask < 512 from ⟨g0, g1⟩)]; first | rfl | simp)
  clear h0 g0 g1
  have HF := lh ho
  have HQ := lh hq
  obtain ⟨R, hR⟩ : ∃ R : Deed, R = { dz with kind := o.kind } := ⟨_, rfl⟩
  have hRw : R.wf := by rw [hR]; exact ⟨rfl, rfl⟩
  have HR := lh hR
  refine rkHead rfl o q w _ ho ?_
  intro w1 g v S0
  have S := lh (show XC w w1 o R q wz g by rw [hR]; exact S0)
  clear S0 ho hq hk hR
  have ps := dcs HF.out.wf S.out.o
  go_wp2_with (fail)
  clear ps
  refine numS S HF FN fun _ S ps => ?_
  go_wp2_with (fail)
  clear ps
  refine devS S HF FD fun _ S ps => ?_
  have s9 := S.out.r.cell (Deed.getI 2 (by omega))
  have sf := fun i => S.out.r.frozen i
  have slt := S.out.r.lt
  have S2 := lh (S.out.devS HR.out)
  have rs := dcs HF.out.wf S2.out.o
  have s9' := S2.out.r.cell (Deed.getF ⟨rfl, rfl⟩ 0 (by omega))
  have sf' := fun i => S2.out.r.frozen i
  have slt' := S2.out.r.lt
  have S3 := lh (S2.out.set (r' := { dz with kind := o.kind, dev := o.dev, f := o.f }) (s' := ⟨q.A, q.n, none, 0⟩) 33 (.slice q.A o.f.length q.n) (Deed.setF (o := { dz with kind := o.kind, dev := o.dev }) (q := wz) ⟨rfl, rfl⟩ q.A o.f q.n))
  have us := dcs HF.out.wf S3.out.o
  have s9'' := S3.out.r.cell (Deed.getF ⟨rfl, rfl⟩ 1 (by omega))
  have sf'' := fun i => S3.out.r.frozen i
  have slt'' := S3.out.r.lt
  have S4 := lh (S3.out.set (r' := { dz with kind := o.kind, dev := o.dev, f := o.f, mask := o.mask }) (s' := ⟨q.A, q.n, none, 0⟩) 34 (.int .u32 o.mask) (Deed.setM (o := { dz with kind := o.kind, dev := o.dev, f := o.f }) (q := ⟨q.A, q.n, none, 0⟩) ⟨rfl, rfl⟩ o.mask))
  obtain ⟨v0, v1, v2, v3, v4, v5, v6, v7⟩ := dcs HF.out.wf S4.out.o
  go_wp2_with (fail)
  replace S := S4
  clear s9 sf slt s9' sf' slt' s9'' sf'' slt'' S2 S3 S4 rs us ps
  have ps := dcs HF.out.wf S.out.o
  clear v0 v1 v2 v3 v4 v5 v6 v7
  go_ret
  exact RetV.bool HK.out.symm S.out.below
set_option maxHeartbeats 40000000 in
set_option maxRecDepth 10000 in
theorem ref47_Check_Fc2 (o : Deed) (q : Where) (w : World) (ho : o.fit) (hq : o.at_ w q) (hk : o.kind = 3) (h0 : ¬ 0 ≤ o.dev) (g0 : check o.f = 0) (g1 : ¬ o.mask < 512) : Calls Tryd.prog 10 #[.agg (o.arr q)] w (RetV w (.bool o.ok)) := by
  have FN : dN o.kind = false := by unfold dN; simp; omega
  have FD : dD o.kind = true := by unfold dD; simp; omega
  have j1 : (o.kind == 1) = false := by simp; omega
  have j3 : (o.kind == 3) = true := by simp; omega
  have j5 : (o.kind == 5) = false := by simp; omega
  have j11 : (o.kind == 11) = false := by simp; omega
  have j12 : (o.kind == 12) = false := by simp; omega
  have d1 : decide (1 ≤ o.kind) = true := by simp; omega
  have d1' : decide (o.kind < 1) = false := by simp; omega
  have d2 : decide (o.kind ≤ 12) = true := by simp; omega
  have d2' : decide (12 < o.kind) = false := by simp; omega
  have t1 : decide (0 ≤ o.dev) = false := by simp; omega
  have t1' : decide (o.dev < 0) = true := by simp; omega
  have m1 : (check o.f == 0) = true := by simpa using g0
  have m2 : decide (o.mask ≤ 511) = false := by simp; omega
  have HK := lh (show o.ok = false by rw [ok_F hk, decide_eq_false (show ¬ (0 ≤ o.dev ∧ o.dev ≤ 5) by omega), decide_eq_false (show ¬ (check o.f = 0 ∧ o.mask < 512) from fun e => by exact g1 e.2)]; first | rfl | simp)
  clear h0 g0 g1
  have HF := lh ho
  have HQ := lh hq
  obtain ⟨R, hR⟩ : ∃ R : Deed, R = { dz with kind := o.kind } := ⟨_, rfl⟩
  have hRw : R.wf := by rw [hR]; exact ⟨rfl, rfl⟩
  have HR := lh hR
  refine rkHead rfl o q w _ ho ?_
  intro w1 g v S0
  have S := lh (show XC w w1 o R q wz g by rw [hR]; exact S0)
  clear S0 ho hq hk hR
  have ps := dcs HF.out.wf S.out.o
  go_wp2_with (fail)
  clear ps
  refine numS S HF FN fun _ S ps => ?_
  go_wp2_with (fail)
  clear ps
  refine devS S HF FD fun _ S ps => ?_
  have s9 := S.out.r.cell (Deed.getI 2 (by omega))
  have sf := fun i => S.out.r.frozen i
  have slt := S.out.r.lt
  have S2 := lh (S.out.devS HR.out)
  have rs := dcs HF.out.wf S2.out.o
  have s9' := S2.out.r.cell (Deed.getF ⟨rfl, rfl⟩ 0 (by omega))
  have sf' := fun i => S2.out.r.frozen i
  have slt' := S2.out.r.lt
  have S3 := lh (S2.out.set (r' := { dz with kind := o.kind, dev := o.dev, f := o.f }) (s' := ⟨q.A, q.n, none, 0⟩) 33 (.slice q.A o.f.length q.n) (Deed.setF (o := { dz with kind := o.kind, dev := o.dev }) (q := wz) ⟨rfl, rfl⟩ q.A o.f q.n))
  have us := dcs HF.out.wf S3.out.o
  have s9'' := S3.out.r.cell (Deed.getF ⟨rfl, rfl⟩ 1 (by omega))
  have sf'' := fun i => S3.out.r.frozen i
  have slt'' := S3.out.r.lt
  have S4 := lh (S3.out.set (r' := { dz with kind := o.kind, dev := o.dev, f := o.f, mask := o.mask }) (s' := ⟨q.A, q.n, none, 0⟩) 34 (.int .u32 o.mask) (Deed.setM (o := { dz with kind := o.kind, dev := o.dev, f := o.f }) (q := ⟨q.A, q.n, none, 0⟩) ⟨rfl, rfl⟩ o.mask))
  obtain ⟨v0, v1, v2, v3, v4, v5, v6, v7⟩ := dcs HF.out.wf S4.out.o
  go_wp2_with (fail)
  replace S := S4
  clear s9 sf slt s9' sf' slt' s9'' sf'' slt'' S2 S3 S4 rs us ps
  have ps := dcs HF.out.wf S.out.o
  clear v0 v1 v2 v3 v4 v5 v6 v7
  go_ret
  exact RetV.bool HK.out.symm S.out.below
set_option maxHeartbeats 40000000 in
set_option maxRecDepth 10000 in
theorem ref47_Check_Fc3 (o : Deed) (q : Where) (w : World) (ho : o.fit) (hq : o.at_ w q) (hk : o.kind = 3) (h0 : ¬ 0 ≤ o.dev) (g0 : ¬ check o.f = 0) : Calls Tryd.prog 10 #[.agg (o.arr q)] w (RetV w (.bool o.ok)) := by
  have FN : dN o.kind = false := by unfold dN; simp; omega
  have FD : dD o.kind = true := by unfold dD; simp; omega
  have j1 : (o.kind == 1) = false := by simp; omega
  have j3 : (o.kind == 3) = true := by simp; omega
  have j5 : (o.kind == 5) = false := by simp; omega
  have j11 : (o.kind == 11) = false := by simp; omega
  have j12 : (o.kind == 12) = false := by simp; omega
  have d1 : decide (1 ≤ o.kind) = true := by simp; omega
  have d1' : decide (o.kind < 1) = false := by simp; omega
  have d2 : decide (o.kind ≤ 12) = true := by simp; omega
  have d2' : decide (12 < o.kind) = false := by simp; omega
  have t1 : decide (0 ≤ o.dev) = false := by simp; omega
  have t1' : decide (o.dev < 0) = true := by simp; omega
  have m1 : (check o.f == 0) = false := by simpa using g0
  have HK := lh (show o.ok = false by rw [ok_F hk, decide_eq_false (show ¬ (0 ≤ o.dev ∧ o.dev ≤ 5) by omega), decide_eq_false (show ¬ (check o.f = 0 ∧ o.mask < 512) from fun e => by exact g0 e.1)]; first | rfl | simp)
  clear h0 g0
  have HF := lh ho
  have HQ := lh hq
  obtain ⟨R, hR⟩ : ∃ R : Deed, R = { dz with kind := o.kind } := ⟨_, rfl⟩
  have hRw : R.wf := by rw [hR]; exact ⟨rfl, rfl⟩
  have HR := lh hR
  refine rkHead rfl o q w _ ho ?_
  intro w1 g v S0
  have S := lh (show XC w w1 o R q wz g by rw [hR]; exact S0)
  clear S0 ho hq hk hR
  have ps := dcs HF.out.wf S.out.o
  go_wp2_with (fail)
  clear ps
  refine numS S HF FN fun _ S ps => ?_
  go_wp2_with (fail)
  clear ps
  refine devS S HF FD fun _ S ps => ?_
  have s9 := S.out.r.cell (Deed.getI 2 (by omega))
  have sf := fun i => S.out.r.frozen i
  have slt := S.out.r.lt
  have S2 := lh (S.out.devS HR.out)
  have rs := dcs HF.out.wf S2.out.o
  have s9' := S2.out.r.cell (Deed.getF ⟨rfl, rfl⟩ 0 (by omega))
  have sf' := fun i => S2.out.r.frozen i
  have slt' := S2.out.r.lt
  have S3 := lh (S2.out.set (r' := { dz with kind := o.kind, dev := o.dev, f := o.f }) (s' := ⟨q.A, q.n, none, 0⟩) 33 (.slice q.A o.f.length q.n) (Deed.setF (o := { dz with kind := o.kind, dev := o.dev }) (q := wz) ⟨rfl, rfl⟩ q.A o.f q.n))
  have us := dcs HF.out.wf S3.out.o
  have s9'' := S3.out.r.cell (Deed.getF ⟨rfl, rfl⟩ 1 (by omega))
  have sf'' := fun i => S3.out.r.frozen i
  have slt'' := S3.out.r.lt
  have S4 := lh (S3.out.set (r' := { dz with kind := o.kind, dev := o.dev, f := o.f, mask := o.mask }) (s' := ⟨q.A, q.n, none, 0⟩) 34 (.int .u32 o.mask) (Deed.setM (o := { dz with kind := o.kind, dev := o.dev, f := o.f }) (q := ⟨q.A, q.n, none, 0⟩) ⟨rfl, rfl⟩ o.mask))
  obtain ⟨v0, v1, v2, v3, v4, v5, v6, v7⟩ := dcs HF.out.wf S4.out.o
  go_wp2_with (fail)
  replace S := S4
  clear s9 sf slt s9' sf' slt' s9'' sf'' slt'' S2 S3 S4 rs us ps
  have ps := dcs HF.out.wf S.out.o
  clear v0 v1 v2 v3 v4 v5 v6 v7
  go_ret
  exact RetV.bool HK.out.symm S.out.below
end Go.Proofs.YtiedkcijjfmhaaaDoor
