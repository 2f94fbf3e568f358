/-
  The walk of the reference's Check of acts, a class of kinds. (Printed by gen47j.py.)
-/
import Derived.Test.YtiedkcijjfmhaaaDoorSy4
import Derived.Test.YtiedkcijjfmhaaaDoorSy27
import Derived.Test.YtiedkcijjfmhaaaDoorSy29
namespace Go.Proofs.YtiedkcijjfmhaaaDoor
open Go.RowKit

set_option maxHeartbeats 40000000 in
set_option maxRecDepth 10000 in
theorem ref47_Check_Wc1 (o : Deed) (q : Where) (w : World) (ho : o.fit) (hq : o.at_ w q) (hk : o.kind = 5) (h0 : ¬ 0 ≤ o.dev) (g0 : 1 ≤ o.id) (g1 : o.id ≤ 1073741823) (g2 : o.p.code = 0) : Calls Tryd.prog 10 #[.agg (o.arr q)] w (RetV w (.bool o.ok)) := by
  have FN : dN o.kind = false := by unfold dN; simp; omega
  have FD : dD o.kind = true := by unfold dD; simp; omega
  have j1 : (o.kind == 1) = false := by simp; omega
  have j3 : (o.kind == 3) = false := by simp; omega
  have j5 : (o.kind == 5) = true := by simp; omega
  have j11 : (o.kind == 11) = false := by simp; omega
  have j12 : (o.kind == 12) = false := by simp; omega
  have d1 : decide (1 ≤ o.kind) = true := by simp; omega
  have d1' : decide (o.kind < 1) = false := by simp; omega
  have d2 : decide (o.kind ≤ 12) = true := by simp; omega
  have d2' : decide (12 < o.kind) = false := by simp; omega
  have t1 : decide (0 ≤ o.dev) = false := by simp; omega
  have t1' : decide (o.dev < 0) = true := by simp; omega
  have m0 : decide (1 ≤ o.id) = true := by simp; omega
  have m0' : decide (o.id < 1) = false := by simp; omega
  have m1 : decide (o.id < 1073741824) = true := by simp; omega
  have m1' : decide (1073741824 ≤ o.id) = false := by simp; omega
  have m2 : (o.p.code == 0) = true := by simpa using g2
  have HK := lh (show o.ok = false by rw [ok_W hk, decide_eq_false (show ¬ (0 ≤ o.dev ∧ o.dev ≤ 5) by omega), decide_eq_true (show (1 ≤ o.id ∧ o.id ≤ 1073741823 ∧ o.p.code = 0) from ⟨g0, g1, g2⟩)]; first | rfl | simp)
  clear h0 g0 g1 g2
  have HF := lh ho
  have HQ := lh hq
  obtain ⟨R, hR⟩ : ∃ R : Deed, R = { dz with kind := o.kind } := ⟨_, rfl⟩
  have hRw : R.wf := by rw [hR]; exact ⟨rfl, rfl⟩
  have HR := lh hR
  refine rkHead rfl o q w _ ho ?_
  intro w1 g v S0
  have S := lh (show XC w w1 o R q wz g by rw [hR]; exact S0)
  clear S0 ho hq hk hR
  have ps := dcs HF.out.wf S.out.o
  go_wp2_with (fail)
  clear ps
  refine numS S HF FN fun _ S ps => ?_
  go_wp2_with (fail)
  clear ps
  refine devS S HF FD fun _ S ps => ?_
  have s9 := S.out.r.cell (Deed.getI 2 (by omega))
  have sf := fun i => S.out.r.frozen i
  have slt := S.out.r.lt
  have S2 := lh (S.out.devS HR.out)
  have rs := dcs HF.out.wf S2.out.o
  have s9' := S2.out.r.cell (Deed.getI 3 (by omega))
  have sf' := fun i => S2.out.r.frozen i
  have slt' := S2.out.r.lt
  have S3 := lh (S2.out.set (r' := { dz with kind := o.kind, dev := o.dev, id := o.id }) (s' := wz) 3 (.int .i64 o.id) (by have := Deed.setI (o := { dz with kind := o.kind, dev := o.dev }) (q := wz) ⟨rfl, rfl⟩ 3 (by omega) o.id; simpa using this))
  have us := dcs HF.out.wf S3.out.o
  go_wp2_with (with_reducible refine slG 28 (.tmp 90) rfl ?_)
  refine Stop.mk (wlG (by rfl) _ _ rfl w.heap.size 35 rfl o.p.arr (deed_patch HF.out.wf S3.out.o) strP (by rw [Patch.arr_size, HF.out.wf.p]) ?_)
  go_wp2_with (with_reducible refine stS 28 (.tmp 92) (.tmp 91) rfl rfl ?_)
  refine Stop.mk (wpList_storeAt rfl _ _ _ rfl g 35 o.p.arr rfl rfl _ S3.out.r strP (by rw [Patch.arr_size, HF.out.wf.p]) (by rw [Patch.arr_size, HF.out.wf.p, Deed.arr_size ⟨rfl, rfl⟩]; decide) (Patch.arr_one o.p) ?_)
  intro w3 hb3 hk3
  replace S := lh (S3.out.put (r' := { dz with kind := o.kind, dev := o.dev, id := o.id, p := o.p }) (s' := wz) hk3 (by have := Deed.putP (o := { dz with kind := o.kind, dev := o.dev, id := o.id }) (q := wz) ⟨rfl, rfl⟩ o.p HF.out.wf.p; rw [this] at hb3; exact hb3))
  clear hb3 hk3 s9 sf slt s9' sf' slt' S2 S3 rs us ps
  have ps := dcs HF.out.wf S.out.o
  go_wp2_with (fail)
  go_ret
  exact RetV.bool HK.out.symm S.out.below
set_option maxHeartbeats 40000000 in
set_option maxRecDepth 10000 in
theorem ref47_Check_Wc2 (o : Deed) (q : Where) (w : World) (ho : o.fit) (hq : o.at_ w q) (hk : o.kind = 5) (h0 : ¬ 0 ≤ o.dev) (g0 : 1 ≤ o.id) (g1 : o.id ≤ 1073741823) (g2 : ¬ o.p.code = 0) : Calls Tryd.prog 10 #[.agg (o.arr q)] w (RetV w (.bool o.ok)) := by
  have FN : dN o.kind = false := by unfold dN; simp; omega
  have FD : dD o.kind = true := by unfold dD; simp; omega
  have j1 : (o.kind == 1) = false := by simp; omega
  have j3 : (o.kind == 3) = false := by simp; omega
  have j5 : (o.kind == 5) = true := by simp; omega
  have j11 : (o.kind == 11) = false := by simp; omega
  have j12 : (o.kind == 12) = false := by simp; omega
  have d1 : decide (1 ≤ o.kind) = true := by simp; omega
  have d1' : decide (o.kind < 1) = false := by simp; omega
  have d2 : decide (o.kind ≤ 12) = true := by simp; omega
  have d2' : decide (12 < o.kind) = false := by simp; omega
  have t1 : decide (0 ≤ o.dev) = false := by simp; omega
  have t1' : decide (o.dev < 0) = true := by simp; omega
  have m0 : decide (1 ≤ o.id) = true := by simp; omega
  have m0' : decide (o.id < 1) = false := by simp; omega
  have m1 : decide (o.id < 1073741824) = true := by simp; omega
  have m1' : decide (1073741824 ≤ o.id) = false := by simp; omega
  have m2 : (o.p.code == 0) = false := by simpa using g2
  have HK := lh (show o.ok = false by rw [ok_W hk, decide_eq_false (show ¬ (0 ≤ o.dev ∧ o.dev ≤ 5) by omega), decide_eq_false (show ¬ (1 ≤ o.id ∧ o.id ≤ 1073741823 ∧ o.p.code = 0) from fun e => by exact g2 e.2.2)]; first | rfl | simp)
  clear h0 g0 g1 g2
  have HF := lh ho
  have HQ := lh hq
  obtain ⟨R, hR⟩ : ∃ R : Deed, R = { dz with kind := o.kind } := ⟨_, rfl⟩
  have hRw : R.wf := by rw [hR]; exact ⟨rfl, rfl⟩
  have HR := lh hR
  refine rkHead rfl o q w _ ho ?_
  intro w1 g v S0
  have S := lh (show XC w w1 o R q wz g by rw [hR]; exact S0)
  clear S0 ho hq hk hR
  have ps := dcs HF.out.wf S.out.o
  go_wp2_with (fail)
  clear ps
  refine numS S HF FN fun _ S ps => ?_
  go_wp2_with (fail)
  clear ps
  refine devS S HF FD fun _ S ps => ?_
  have s9 := S.out.r.cell (Deed.getI 2 (by omega))
  have sf := fun i => S.out.r.frozen i
  have slt := S.out.r.lt
  have S2 := lh (S.out.devS HR.out)
  have rs := dcs HF.out.wf S2.out.o
  have s9' := S2.out.r.cell (Deed.getI 3 (by omega))
  have sf' := fun i => S2.out.r.frozen i
  have slt' := S2.out.r.lt
  have S3 := lh (S2.out.set (r' := { dz with kind := o.kind, dev := o.dev, id := o.id }) (s' := wz) 3 (.int .i64 o.id) (by have := Deed.setI (o := { dz with kind := o.kind, dev := o.dev }) (q := wz) ⟨rfl, rfl⟩ 3 (by omega) o.id; simpa using this))
  have us := dcs HF.out.wf S3.out.o
  go_wp2_with (with_reducible refine slG 28 (.tmp 90) rfl ?_)
  refine Stop.mk (wlG (by rfl) _ _ rfl w.heap.size 35 rfl o.p.arr (deed_patch HF.out.wf S3.out.o) strP (by rw [Patch.arr_size, HF.out.wf.p]) ?_)
  go_wp2_with (with_reducible refine stS 28 (.tmp 92) (.tmp 91) rfl rfl ?_)
  refine Stop.mk (wpList_storeAt rfl _ _ _ rfl g 35 o.p.arr rfl rfl _ S3.out.r strP (by rw [Patch.arr_size, HF.out.wf.p]) (by rw [Patch.arr_size, HF.out.wf.p, Deed.arr_size ⟨rfl, rfl⟩]; decide) (Patch.arr_one o.p) ?_)
  intro w3 hb3 hk3
  replace S := lh (S3.out.put (r' := { dz with kind := o.kind, dev := o.dev, id := o.id, p := o.p }) (s' := wz) hk3 (by have := Deed.putP (o := { dz with kind := o.kind, dev := o.dev, id := o.id }) (q := wz) ⟨rfl, rfl⟩ o.p HF.out.wf.p; rw [this] at hb3; exact hb3))
  clear hb3 hk3 s9 sf slt s9' sf' slt' S2 S3 rs us ps
  have ps := dcs HF.out.wf S.out.o
  go_wp2_with (fail)
  go_ret
  exact RetV.bool HK.out.symm S.out.below
set_option maxHeartbeats 40000000 in
set_option maxRecDepth 10000 in
theorem ref47_Check_Wc3 (o : Deed) (q : Where) (w : World) (ho : o.fit) (hq : o.at_ w q) (hk : o.kind = 5) (h0 : ¬ 0 ≤ o.dev) (g0 : 1 ≤ o.id) (g1 : ¬ o.id ≤ 1073741823) : Calls Tryd.prog 10 #[.agg (o.arr q)] w (RetV w (.bool o.ok)) := by
  have FN : dN o.kind = false := by unfold dN; simp; omega
  have FD : dD o.kind = true := by unfold dD; simp; omega
  have j1 : (o.kind == 1) = false := by simp; omega
  have j3 : (o.kind == 3) = false := by simp; omega
  have j5 : (o.kind == 5) = true := by simp; omega
  have j11 : (o.kind == 11) = false := by simp; omega
  have j12 : (o.kind == 12) = false := by simp; omega
  have d1 : decide (1 ≤ o.kind) = true := by simp; omega
  have d1' : decide (o.kind < 1) = false := by simp; omega
  have d2 : decide (o.kind ≤ 12) = true := by simp; omega
  have d2' : decide (12 < o.kind) = false := by simp; omega
  have t1 : decide (0 ≤ o.dev) = false := by simp; omega
  have t1' : decide (o.dev < 0) = true := by simp; omega
  have m0 : decide (1 ≤ o.id) = true := by simp; omega
  have m0' : decide (o.id < 1) = false := by simp; omega
  have m1 : decide (o.id < 1073741824) = false := by simp; omega
  have m1' : decide (1073741824 ≤ o.id) = true := by simp; omega
  have HK := lh (show o.ok = false by rw [ok_W hk, decide_eq_false (show ¬ (0 ≤ o.dev ∧ o.dev ≤ 5) by omega), decide_eq_false (show ¬ (1 ≤ o.id ∧ o.id ≤ 1073741823 ∧ o.p.code = 0) from fun e => by exact g1 e.2.1)]; first | rfl | simp)
  clear h0 g0 g1
  have HF := lh ho
  have HQ := lh hq
  obtain ⟨R, hR⟩ : ∃ R : Deed, R = { dz with kind := o.kind } := ⟨_, rfl⟩
  have hRw : R.wf := by rw [hR]; exact ⟨rfl, rfl⟩
  have HR := lh hR
  refine rkHead rfl o q w _ ho ?_
  intro w1 g v S0
  have S := lh (show XC w w1 o R q wz g by rw [hR]; exact S0)
  clear S0 ho hq hk hR
  have ps := dcs HF.out.wf S.out.o
  go_wp2_with (fail)
  clear ps
  refine numS S HF FN fun _ S ps => ?_
  go_wp2_with (fail)
  clear ps
  refine devS S HF FD fun _ S ps => ?_
  have s9 := S.out.r.cell (Deed.getI 2 (by omega))
  have sf := fun i => S.out.r.frozen i
  have slt := S.out.r.lt
  have S2 := lh (S.out.devS HR.out)
  have rs := dcs HF.out.wf S2.out.o
  have s9' := S2.out.r.cell (Deed.getI 3 (by omega))
  have sf' := fun i => S2.out.r.frozen i
  have slt' := S2.out.r.lt
  have S3 := lh (S2.out.set (r' := { dz with kind := o.kind, dev := o.dev, id := o.id }) (s' := wz) 3 (.int .i64 o.id) (by have := Deed.setI (o := { dz with kind := o.kind, dev := o.dev }) (q := wz) ⟨rfl, rfl⟩ 3 (by omega) o.id; simpa using this))
  have us := dcs HF.out.wf S3.out.o
  go_wp2_with (with_reducible refine slG 28 (.tmp 90) rfl ?_)
  refine Stop.mk (wlG (by rfl) _ _ rfl w.heap.size 35 rfl o.p.arr (deed_patch HF.out.wf S3.out.o) strP (by rw [Patch.arr_size, HF.out.wf.p]) ?_)
  go_wp2_with (with_reducible refine stS 28 (.tmp 92) (.tmp 91) rfl rfl ?_)
  refine Stop.mk (wpList_storeAt rfl _ _ _ rfl g 35 o.p.arr rfl rfl _ S3.out.r strP (by rw [Patch.arr_size, HF.out.wf.p]) (by rw [Patch.arr_size, HF.out.wf.p, Deed.arr_size ⟨rfl, rfl⟩]; decide) (Patch.arr_one o.p) ?_)
  intro w3 hb3 hk3
  replace S := lh (S3.out.put (r' := { dz with kind := o.kind, dev := o.dev, id := o.id, p := o.p }) (s' := wz) hk3 (by have := Deed.putP (o := { dz with kind := o.kind, dev := o.dev, id := o.id }) (q := wz) ⟨rfl, rfl⟩ o.p HF.out.wf.p; rw [this] at hb3; exact hb3))
  clear hb3 hk3 s9 sf slt s9' sf' slt' S2 S3 rs us ps
  have ps := dcs HF.out.wf S.out.o
  go_wp2_with (fail)
  go_ret
  exact RetV.bool HK.out.symm S.out.below
set_option maxHeartbeats 40000000 in
set_option maxRecDepth 10000 in
theorem ref47_Check_Wc4 (o : Deed) (q : Where) (w : World) (ho : o.fit) (hq : o.at_ w q) (hk : o.kind = 5) (h0 : ¬ 0 ≤ o.dev) (g0 : ¬ 1 ≤ o.id) : Calls Tryd.prog 10 #[.agg (o.arr q)] w (RetV w (.bool o.ok)) := by
  have FN : dN o.kind = false := by unfold dN; simp; omega
  have FD : dD o.kind = true := by unfold dD; simp; omega
  have j1 : (o.kind == 1) = false := by simp; omega
  have j3 : (o.kind == 3) = false := by simp; omega
  have j5 : (o.kind == 5) = true := by simp; omega
  have j11 : (o.kind == 11) = false := by simp; omega
  have j12 : (o.kind == 12) = false := by simp; omega
  have d1 : decide (1 ≤ o.kind) = true := by simp; omega
  have d1' : decide (o.kind < 1) = false := by simp; omega
  have d2 : decide (o.kind ≤ 12) = true := by simp; omega
  have d2' : decide (12 < o.kind) = false := by simp; omega
  have t1 : decide (0 ≤ o.dev) = false := by simp; omega
  have t1' : decide (o.dev < 0) = true := by simp; omega
  have m0 : decide (1 ≤ o.id) = false := by simp; omega
  have m0' : decide (o.id < 1) = true := by simp; omega
  have HK := lh (show o.ok = false by rw [ok_W hk, decide_eq_false (show ¬ (0 ≤ o.dev ∧ o.dev ≤ 5) by omega), decide_eq_false (show ¬ (1 ≤ o.id ∧ o.id ≤ 1073741823 ∧ o.p.code = 0) from fun e => by exact g0 e.1)]; first | rfl | simp)
  clear h0 g0
  have HF := lh ho
  have HQ := lh hq
  obtain ⟨R, hR⟩ : ∃ R : Deed, R = { dz with kind := o.kind } := ⟨_, rfl⟩
  have hRw : R.wf := by rw [hR]; exact ⟨rfl, rfl⟩
  have HR := lh hR
  refine rkHead rfl o q w _ ho ?_
  intro w1 g v S0
  have S := lh (show XC w w1 o R q wz g by rw [hR]; exact S0)
  clear S0 ho hq hk hR
  have ps := dcs HF.out.wf S.out.o
  go_wp2_with (fail)
  clear ps
  refine numS S HF FN fun _ S ps => ?_
  go_wp2_with (fail)
  clear ps
  refine devS S HF FD fun _ S ps => ?_
  have s9 := S.out.r.cell (Deed.getI 2 (by omega))
  have sf := fun i => S.out.r.frozen i
  have slt := S.out.r.lt
  have S2 := lh (S.out.devS HR.out)
  have rs := dcs HF.out.wf S2.out.o
  have s9' := S2.out.r.cell (Deed.getI 3 (by omega))
  have sf' := fun i => S2.out.r.frozen i
  have slt' := S2.out.r.lt
  have S3 := lh (S2.out.set (r' := { dz with kind := o.kind, dev := o.dev, id := o.id }) (s' := wz) 3 (.int .i64 o.id) (by have := Deed.setI (o := { dz with kind := o.kind, dev := o.dev }) (q := wz) ⟨rfl, rfl⟩ 3 (by omega) o.id; simpa using this))
  have us := dcs HF.out.wf S3.out.o
  go_wp2_with (with_reducible refine slG 28 (.tmp 90) rfl ?_)
  refine Stop.mk (wlG (by rfl) _ _ rfl w.heap.size 35 rfl o.p.arr (deed_patch HF.out.wf S3.out.o) strP (by rw [Patch.arr_size, HF.out.wf.p]) ?_)
  go_wp2_with (with_reducible refine stS 28 (.tmp 92) (.tmp 91) rfl rfl ?_)
  refine Stop.mk (wpList_storeAt rfl _ _ _ rfl g 35 o.p.arr rfl rfl _ S3.out.r strP (by rw [Patch.arr_size, HF.out.wf.p]) (by rw [Patch.arr_size, HF.out.wf.p, Deed.arr_size ⟨rfl, rfl⟩]; decide) (Patch.arr_one o.p) ?_)
  intro w3 hb3 hk3
  replace S := lh (S3.out.put (r' := { dz with kind := o.kind, dev := o.dev, id := o.id, p := o.p }) (s' := wz) hk3 (by have := Deed.putP (o := { dz with kind := o.kind, dev := o.dev, id := o.id }) (q := wz) ⟨rfl, rfl⟩ o.p HF.out.wf.p; rw [this] at hb3; exact hb3))
  clear hb3 hk3 s9 sf slt s9' sf' slt' S2 S3 rs us ps
  have ps := dcs HF.out.wf S.out.o
  go_wp2_with (fail)
  go_ret
  exact RetV.bool HK.out.symm S.out.below
end Go.Proofs.YtiedkcijjfmhaaaDoor
