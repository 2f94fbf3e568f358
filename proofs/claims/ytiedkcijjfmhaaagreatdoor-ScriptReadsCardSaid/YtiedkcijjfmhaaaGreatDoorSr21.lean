/-
  The walk of script.Check, a class of kinds. (Printed by gen47d.py.)
-/
import Derived.Test.YtiedkcijjfmhaaaGreatDoorSr19
namespace Go.Proofs.YtiedkcijjfmhaaaGreatDoor
open Go.RowKit

theorem ok_D {o : Deed} (hk : o.kind = 4 ∨ o.kind = 6) : o.ok = (decide (0 ≤ o.dev ∧ o.dev ≤ 5) && decide (({ dz with kind := o.kind, dev := o.dev } : Deed) = o)) := by
  have e : (o.only = o) = (({ dz with kind := o.kind, dev := o.dev } : Deed) = o) := by
    unfold Deed.only
    rcases hk with k | k <;> simp [dE, dN, dD, dF, dW, dK, dT, k]
  unfold Deed.ok Deed.may
  simp only [e]
  congr 1
  rcases hk with k | k <;> simp [dE, dN, dD, dF, dW, dK, dT, k]
set_option maxHeartbeats 40000000 in
set_option maxRecDepth 10000 in
theorem script_Check_D1 (o : Deed) (q : Where) (w : World) (ho : o.fit) (hq : o.at_ w q) (hk : o.kind = 4 ∨ o.kind = 6) (h0 : 0 ≤ o.dev) (h1 : o.dev ≤ 5) : Calls Tryz.prog 20 #[.agg (o.arr q)] w (RetV w (.bool o.ok)) := by
  have k1 : 1 ≤ o.kind := by omega
  have k2 : o.kind ≤ 12 := by omega
  have FE : dE o.kind = false := by unfold dE; simp; omega
  have FN : dN o.kind = false := by unfold dN; simp; omega
  have FD : dD o.kind = true := by unfold dD; simp; omega
  have FF : dF o.kind = false := by unfold dF; simp; omega
  have FW : dW o.kind = false := by unfold dW; simp; omega
  have FK : dK o.kind = false := by unfold dK; simp; omega
  have FT : dT o.kind = false := by unfold dT; simp; omega
  have t1 : decide (0 ≤ o.dev) = true := by simp; omega
  have t1' : decide (o.dev < 0) = false := by simp; omega
  have t2 : decide (o.dev < 6) = true := by simp; omega
  have t2' : decide (6 ≤ o.dev) = false := by simp; omega
  have hl : (0 ≤ o.dev ∧ o.dev ≤ 5) := ⟨h0, h1⟩
  have HK := Lib.hid (show o.ok = decide (({ dz with kind := o.kind, dev := o.dev } : Deed) = o) by rw [ok_D hk, decide_eq_true hl]; first | rfl | simp)
  clear hl
  clear h0 h1
  have HF := Lib.hid ho
  have HQ := Lib.hid hq
  obtain ⟨R, hR⟩ : ∃ R : Deed, R = { dz with kind := o.kind } := ⟨_, rfl⟩
  have hRw : R.wf := by rw [hR]; exact ⟨rfl, rfl⟩
  have HR := Lib.hid hR
  refine ckHead rfl o q w _ ho hq k1 k2 ?_
  intro W1 g h u S0
  have S := Lib.hid (show SC w W1 o R q wz g h true by rw [hR]; exact S0)
  have hmf := ckMf
  clear S0 ho hq hk hR k1 k2
  obtain ⟨p0, p1, p2, p3, p4, p5, p6, p7⟩ := dcs HF.out.wf S.out.o
  go_wp2_with (fail)
  refine (csh o.kind 1 _).mono ?_
  rintro e w1 ⟨rfl, hb1⟩
  rw [hasD_E o.kind, FE]
  replace S := Lib.hid (S.out.step hb1)
  clear hb1 p0 p1 p2 p3 p4 p5 p6 p7
  obtain ⟨p0, p1, p2, p3, p4, p5, p6, p7⟩ := dcs HF.out.wf S.out.o
  go_wp2_with (fail)
  refine (csh o.kind 2 _).mono ?_
  rintro e w1 ⟨rfl, hb1⟩
  rw [hasD_N o.kind, FN]
  replace S := Lib.hid (S.out.step hb1)
  clear hb1 p0 p1 p2 p3 p4 p5 p6 p7
  obtain ⟨p0, p1, p2, p3, p4, p5, p6, p7⟩ := dcs HF.out.wf S.out.o
  go_wp2_with (fail)
  refine (csh o.kind 4 _).mono ?_
  rintro e w1 ⟨rfl, hb1⟩
  rw [hasD_D o.kind, FD]
  replace S := Lib.hid (S.out.step hb1)
  clear hb1 p0 p1 p2 p3 p4 p5 p6 p7
  obtain ⟨p0, p1, p2, p3, p4, p5, p6, p7⟩ := dcs HF.out.wf S.out.o
  have s9 := S.out.r.cell (Deed.getI 2 (by omega))
  have sf := fun i => S.out.r.frozen i
  have slt := S.out.r.lt
  have S2 := Lib.hid (S.out.set (r' := { dz with kind := o.kind, dev := o.dev }) (s' := wz) 2 (.int .i64 o.dev) (by rw [HR.out]; have := Deed.setI (o := { dz with kind := o.kind }) (q := wz) ⟨rfl, rfl⟩ 2 (by omega) o.dev; simpa using this))
  obtain ⟨r0, r1, r2, r3, r4, r5, r6, r7⟩ := dcs HF.out.wf S2.out.o
  go_wp2_with (fail)
  replace S := S2
  clear s9 sf slt S2 r0 r1 r2 r3 r4 r5 r6 r7
  refine (c_script_Check1 true true h _ S.out.k).mono ?_
  rintro e w2 ⟨rfl, hbk, hkk⟩
  replace S := Lib.hid (S.out.also hkk hbk)
  clear hbk hkk p0 p1 p2 p3 p4 p5 p6 p7
  obtain ⟨p0, p1, p2, p3, p4, p5, p6, p7⟩ := dcs HF.out.wf S.out.o
  go_wp2_with (fail)
  refine (csh o.kind 8 _).mono ?_
  rintro e w1 ⟨rfl, hb1⟩
  rw [hasD_F o.kind, FF]
  replace S := Lib.hid (S.out.step hb1)
  clear hb1 p0 p1 p2 p3 p4 p5 p6 p7
  obtain ⟨p0, p1, p2, p3, p4, p5, p6, p7⟩ := dcs HF.out.wf S.out.o
  go_wp2_with (fail)
  refine (csh o.kind 16 _).mono ?_
  rintro e w1 ⟨rfl, hb1⟩
  rw [hasD_W o.kind, FW]
  replace S := Lib.hid (S.out.step hb1)
  clear hb1 p0 p1 p2 p3 p4 p5 p6 p7
  obtain ⟨p0, p1, p2, p3, p4, p5, p6, p7⟩ := dcs HF.out.wf S.out.o
  go_wp2_with (fail)
  refine (csh o.kind 32 _).mono ?_
  rintro e w1 ⟨rfl, hb1⟩
  rw [hasD_K o.kind, FK]
  replace S := Lib.hid (S.out.step hb1)
  clear hb1 p0 p1 p2 p3 p4 p5 p6 p7
  obtain ⟨p0, p1, p2, p3, p4, p5, p6, p7⟩ := dcs HF.out.wf S.out.o
  go_wp2_with (fail)
  refine (csh o.kind 64 _).mono ?_
  rintro e w1 ⟨rfl, hb1⟩
  rw [hasD_T o.kind, FT]
  replace S := Lib.hid (S.out.step hb1)
  clear hb1 p0 p1 p2 p3 p4 p5 p6 p7
  obtain ⟨p0, p1, p2, p3, p4, p5, p6, p7⟩ := dcs HF.out.wf S.out.o
  have ck := S.out.k.cell (show #[Value.bool true][0]? = some (.bool true) from rfl)
  go_wp2_with (with_reducible refine slG 45 (.tmp 3) rfl ?_)
  refine Stop.mk (wlG (by rfl) _ _ rfl g 0 rfl _ S.out.r.all strOp (Deed.arr_size ⟨rfl, rfl⟩) ?_)
  go_wp2_with (with_reducible refine slG 45 (.tmp 1) rfl ?_)
  refine Stop.mk (wlG (by rfl) _ _ rfl w.heap.size 0 rfl _ S.out.o.all strOp (Deed.arr_size HF.out.wf) ?_)
  go_wp2_with (fail)
  refine (c_script_Same { dz with kind := o.kind, dev := o.dev } o wz q _ ⟨rfl, rfl⟩ HF.out.wf ⟨In.nil (by simp), In.nil (by simp)⟩ (HQ.out.below S.out.below)).mono ?_
  rintro e w3 ⟨rfl, hb3⟩
  go_wp2_with (fail)
  go_ret
  exact RetV.bool HK.out.symm (S.out.below.trans (hb3.mono S.out.below.size))
end Go.Proofs.YtiedkcijjfmhaaaGreatDoor
