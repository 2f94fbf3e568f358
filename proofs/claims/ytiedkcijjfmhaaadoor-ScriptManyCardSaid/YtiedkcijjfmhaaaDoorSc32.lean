/-
  The walk of the reference's Check of acts, a class of kinds. (Printed by gen47j.py.)
-/
import Derived.Test.YtiedkcijjfmhaaaDoorSc24
import Derived.Test.YtiedkcijjfmhaaaDoorSc25
import Derived.Test.YtiedkcijjfmhaaaDoorSc30
namespace Go.Proofs.YtiedkcijjfmhaaaDoor
open Go.RowKit

set_option maxHeartbeats 40000000 in
set_option maxRecDepth 10000 in
theorem ref47_Check_D1 (o : Deed) (q : Where) (w : World) (ho : o.fit) (hq : o.at_ w q) (hk : o.kind = 4 ∨ o.kind = 6) (h0 : 0 ≤ o.dev) (h1 : o.dev ≤ 5) : Calls Tryd.prog 10 #[.agg (o.arr q)] w (RetV w (.bool o.ok)) := by
  have FN : dN o.kind = false := by unfold dN; simp; omega
  have FD : dD o.kind = true := by unfold dD; simp; omega
  have j1 : (o.kind == 1) = false := by simp; omega
  have j3 : (o.kind == 3) = false := by simp; omega
  have j5 : (o.kind == 5) = false := by simp; omega
  have j11 : (o.kind == 11) = false := by simp; omega
  have j12 : (o.kind == 12) = false := by simp; omega
  have d1 : decide (1 ≤ o.kind) = true := by simp; omega
  have d1' : decide (o.kind < 1) = false := by simp; omega
  have d2 : decide (o.kind ≤ 12) = true := by simp; omega
  have d2' : decide (12 < o.kind) = false := by simp; omega
  have t1 : decide (0 ≤ o.dev) = true := by simp; omega
  have t1' : decide (o.dev < 0) = false := by simp; omega
  have t2 : decide (o.dev < 6) = true := by simp; omega
  have t2' : decide (6 ≤ o.dev) = false := by simp; omega
  have hl : (0 ≤ o.dev ∧ o.dev ≤ 5) := ⟨h0, h1⟩
  have HK := Lib.hid (show o.ok = decide (({ dz with kind := o.kind, dev := o.dev } : Deed) = o) by rw [ok_D hk, decide_eq_true hl]; first | rfl | simp)
  clear hl
  clear h0 h1
  have B0 := Lib.hid (At.new w 34 (o.arr q))
  have HF := Lib.hid ho
  have HQ := Lib.hid hq
  obtain ⟨q0, q1, q2, q3, q4, q5, q6, q7⟩ := dcs ho.wf B0.out.2
  obtain ⟨R, hR⟩ : ∃ R : Deed, R = { dz with kind := o.kind } := ⟨_, rfl⟩
  have hRw : R.wf := by rw [hR]; exact ⟨rfl, rfl⟩
  have HFe := Lib.hid ((show R.arr wz = Deed.arr { dz with kind := o.kind } wz by rw [hR]).trans (dz_arr o.kind))
  have HR := Lib.hid hR
  clear ho hq hk hR
  go_enter Tryd.func10, Tryd.ntmps10
  go_wp2_with (with_reducible refine stS 34 (.tmp 3) (.tmp 8) rfl rfl ?_)
  refine Stop.mk (wsB rfl _ _ _ rfl (w.heap.size + 1) _ (by first | rfl | simp) rfl _ (blk_two _ _ _ _) strOpR rfl rfl (by simp [Value.oneCell']) ?_)
  intro w1 hb1 hk1
  rw [← HFe.out] at hb1
  obtain ⟨g, hg⟩ : ∃ g, g = w.heap.size + 1 := ⟨_, rfl⟩
  rw [← hg] at hb1
  have S := Lib.hid (show XC w w1 o R q wz g from ⟨(B0.out.1.alloc B0.out.1.size _).trans (hk1.oneB (by simp; omega) (by omega)), (B0.out.2.below ((Below.refl _ _).alloc (Nat.le_refl _) _) B0.out.2.lt).kept hk1 (by simp; omega) (by simp), hb1, by omega⟩)
  clear hb1 hk1 B0 q0 q1 q2 q3 q4 q5 q6 q7
  obtain ⟨p0, p1, p2, p3, p4, p5, p6, p7⟩ := dcs HF.out.wf S.out.o
  go_wp2_with (fail)
  rw [← hg]
  clear hg
  refine (c_ref47_number o.kind _).mono ?_
  rintro e w1 ⟨rfl, hb1⟩
  rw [FN]
  replace S := Lib.hid (S.out.step hb1)
  clear hb1 p0 p1 p2 p3 p4 p5 p6 p7
  obtain ⟨p0, p1, p2, p3, p4, p5, p6, p7⟩ := dcs HF.out.wf S.out.o
  go_wp2_with (fail)
  refine (c_ref47_device o.kind _).mono ?_
  rintro e w1 ⟨rfl, hb1⟩
  rw [FD]
  replace S := Lib.hid (S.out.step hb1)
  clear hb1 p0 p1 p2 p3 p4 p5 p6 p7
  obtain ⟨p0, p1, p2, p3, p4, p5, p6, p7⟩ := dcs HF.out.wf S.out.o
  have s9 := S.out.r.cell (Deed.getI 2 (by omega))
  have sf := fun i => S.out.r.frozen i
  have slt := S.out.r.lt
  have S2 := Lib.hid (S.out.set (r' := { dz with kind := o.kind, dev := o.dev }) (s' := wz) 2 (.int .i64 o.dev) (by rw [HR.out]; have := Deed.setI (o := { dz with kind := o.kind }) (q := wz) ⟨rfl, rfl⟩ 2 (by omega) o.dev; simpa using this))
  obtain ⟨r0, r1, r2, r3, r4, r5, r6, r7⟩ := dcs HF.out.wf S2.out.o
  go_wp2_with (with_reducible refine slG 34 (.tmp 3) rfl ?_)
  replace S := S2
  clear s9 sf slt S2 r0 r1 r2 r3 r4 r5 r6 r7
  refine Stop.mk (wlG (by rfl) _ _ rfl g 0 rfl _ S.out.r.all strOpR (Deed.arr_size ⟨rfl, rfl⟩) ?_)
  go_wp2_with (with_reducible refine slG 34 (.tmp 1) rfl ?_)
  refine Stop.mk (wlG (by rfl) _ _ rfl w.heap.size 0 rfl _ S.out.o.all strOpR (Deed.arr_size HF.out.wf) ?_)
  go_wp2_with (fail)
  refine (c_ref47_Same { dz with kind := o.kind, dev := o.dev } o wz q _ ⟨rfl, rfl⟩ HF.out.wf ⟨In.nil (by simp), In.nil (by simp)⟩ (HQ.out.below S.out.below)).mono ?_
  rintro e w3 ⟨rfl, hb3⟩
  go_wp2_with (fail)
  go_ret
  exact RetV.bool HK.out.symm (S.out.below.trans (hb3.mono S.out.below.size))
set_option maxHeartbeats 40000000 in
set_option maxRecDepth 10000 in
theorem ref47_Check_D2 (o : Deed) (q : Where) (w : World) (ho : o.fit) (hq : o.at_ w q) (hk : o.kind = 4 ∨ o.kind = 6) (h0 : 0 ≤ o.dev) (h1 : ¬ o.dev ≤ 5) : Calls Tryd.prog 10 #[.agg (o.arr q)] w (RetV w (.bool o.ok)) := by
  have FN : dN o.kind = false := by unfold dN; simp; omega
  have FD : dD o.kind = true := by unfold dD; simp; omega
  have j1 : (o.kind == 1) = false := by simp; omega
  have j3 : (o.kind == 3) = false := by simp; omega
  have j5 : (o.kind == 5) = false := by simp; omega
  have j11 : (o.kind == 11) = false := by simp; omega
  have j12 : (o.kind == 12) = false := by simp; omega
  have d1 : decide (1 ≤ o.kind) = true := by simp; omega
  have d1' : decide (o.kind < 1) = false := by simp; omega
  have d2 : decide (o.kind ≤ 12) = true := by simp; omega
  have d2' : decide (12 < o.kind) = false := by simp; omega
  have t1 : decide (0 ≤ o.dev) = true := by simp; omega
  have t1' : decide (o.dev < 0) = false := by simp; omega
  have t2 : decide (o.dev < 6) = false := by simp; omega
  have t2' : decide (6 ≤ o.dev) = true := by simp; omega
  have hl : ¬ (0 ≤ o.dev ∧ o.dev ≤ 5) := by omega
  have HK := Lib.hid (show o.ok = false by rw [ok_D hk, decide_eq_false hl]; first | rfl | simp)
  clear hl
  clear h0 h1
  have B0 := Lib.hid (At.new w 34 (o.arr q))
  have HF := Lib.hid ho
  have HQ := Lib.hid hq
  obtain ⟨q0, q1, q2, q3, q4, q5, q6, q7⟩ := dcs ho.wf B0.out.2
  obtain ⟨R, hR⟩ : ∃ R : Deed, R = { dz with kind := o.kind } := ⟨_, rfl⟩
  have hRw : R.wf := by rw [hR]; exact ⟨rfl, rfl⟩
  have HFe := Lib.hid ((show R.arr wz = Deed.arr { dz with kind := o.kind } wz by rw [hR]).trans (dz_arr o.kind))
  have HR := Lib.hid hR
  clear ho hq hk hR
  go_enter Tryd.func10, Tryd.ntmps10
  go_wp2_with (with_reducible refine stS 34 (.tmp 3) (.tmp 8) rfl rfl ?_)
  refine Stop.mk (wsB rfl _ _ _ rfl (w.heap.size + 1) _ (by first | rfl | simp) rfl _ (blk_two _ _ _ _) strOpR rfl rfl (by simp [Value.oneCell']) ?_)
  intro w1 hb1 hk1
  rw [← HFe.out] at hb1
  obtain ⟨g, hg⟩ : ∃ g, g = w.heap.size + 1 := ⟨_, rfl⟩
  rw [← hg] at hb1
  have S := Lib.hid (show XC w w1 o R q wz g from ⟨(B0.out.1.alloc B0.out.1.size _).trans (hk1.oneB (by simp; omega) (by omega)), (B0.out.2.below ((Below.refl _ _).alloc (Nat.le_refl _) _) B0.out.2.lt).kept hk1 (by simp; omega) (by simp), hb1, by omega⟩)
  clear hb1 hk1 B0 q0 q1 q2 q3 q4 q5 q6 q7
  obtain ⟨p0, p1, p2, p3, p4, p5, p6, p7⟩ := dcs HF.out.wf S.out.o
  go_wp2_with (fail)
  rw [← hg]
  clear hg
  refine (c_ref47_number o.kind _).mono ?_
  rintro e w1 ⟨rfl, hb1⟩
  rw [FN]
  replace S := Lib.hid (S.out.step hb1)
  clear hb1 p0 p1 p2 p3 p4 p5 p6 p7
  obtain ⟨p0, p1, p2, p3, p4, p5, p6, p7⟩ := dcs HF.out.wf S.out.o
  go_wp2_with (fail)
  refine (c_ref47_device o.kind _).mono ?_
  rintro e w1 ⟨rfl, hb1⟩
  rw [FD]
  replace S := Lib.hid (S.out.step hb1)
  clear hb1 p0 p1 p2 p3 p4 p5 p6 p7
  obtain ⟨p0, p1, p2, p3, p4, p5, p6, p7⟩ := dcs HF.out.wf S.out.o
  have s9 := S.out.r.cell (Deed.getI 2 (by omega))
  have sf := fun i => S.out.r.frozen i
  have slt := S.out.r.lt
  have S2 := Lib.hid (S.out.set (r' := { dz with kind := o.kind, dev := o.dev }) (s' := wz) 2 (.int .i64 o.dev) (by rw [HR.out]; have := Deed.setI (o := { dz with kind := o.kind }) (q := wz) ⟨rfl, rfl⟩ 2 (by omega) o.dev; simpa using this))
  obtain ⟨r0, r1, r2, r3, r4, r5, r6, r7⟩ := dcs HF.out.wf S2.out.o
  go_wp2_with (fail)
  replace S := S2
  clear s9 sf slt S2 r0 r1 r2 r3 r4 r5 r6 r7
  go_ret
  exact RetV.bool HK.out.symm S.out.below
set_option maxHeartbeats 40000000 in
set_option maxRecDepth 10000 in
theorem ref47_Check_D3 (o : Deed) (q : Where) (w : World) (ho : o.fit) (hq : o.at_ w q) (hk : o.kind = 4 ∨ o.kind = 6) (h0 : ¬ 0 ≤ o.dev) : Calls Tryd.prog 10 #[.agg (o.arr q)] w (RetV w (.bool o.ok)) := by
  have FN : dN o.kind = false := by unfold dN; simp; omega
  have FD : dD o.kind = true := by unfold dD; simp; omega
  have j1 : (o.kind == 1) = false := by simp; omega
  have j3 : (o.kind == 3) = false := by simp; omega
  have j5 : (o.kind == 5) = false := by simp; omega
  have j11 : (o.kind == 11) = false := by simp; omega
  have j12 : (o.kind == 12) = false := by simp; omega
  have d1 : decide (1 ≤ o.kind) = true := by simp; omega
  have d1' : decide (o.kind < 1) = false := by simp; omega
  have d2 : decide (o.kind ≤ 12) = true := by simp; omega
  have d2' : decide (12 < o.kind) = false := by simp; omega
  have t1 : decide (0 ≤ o.dev) = false := by simp; omega
  have t1' : decide (o.dev < 0) = true := by simp; omega
  have hl : ¬ (0 ≤ o.dev ∧ o.dev ≤ 5) := by omega
  have HK := Lib.hid (show o.ok = false by rw [ok_D hk, decide_eq_false hl]; first | rfl | simp)
  clear hl
  clear h0
  have B0 := Lib.hid (At.new w 34 (o.arr q))
  have HF := Lib.hid ho
  have HQ := Lib.hid hq
  obtain ⟨q0, q1, q2, q3, q4, q5, q6, q7⟩ := dcs ho.wf B0.out.2
  obtain ⟨R, hR⟩ : ∃ R : Deed, R = { dz with kind := o.kind } := ⟨_, rfl⟩
  have hRw : R.wf := by rw [hR]; exact ⟨rfl, rfl⟩
  have HFe := Lib.hid ((show R.arr wz = Deed.arr { dz with kind := o.kind } wz by rw [hR]).trans (dz_arr o.kind))
  have HR := Lib.hid hR
  clear ho hq hk hR
  go_enter Tryd.func10, Tryd.ntmps10
  go_wp2_with (with_reducible refine stS 34 (.tmp 3) (.tmp 8) rfl rfl ?_)
  refine Stop.mk (wsB rfl _ _ _ rfl (w.heap.size + 1) _ (by first | rfl | simp) rfl _ (blk_two _ _ _ _) strOpR rfl rfl (by simp [Value.oneCell']) ?_)
  intro w1 hb1 hk1
  rw [← HFe.out] at hb1
  obtain ⟨g, hg⟩ : ∃ g, g = w.heap.size + 1 := ⟨_, rfl⟩
  rw [← hg] at hb1
  have S := Lib.hid (show XC w w1 o R q wz g from ⟨(B0.out.1.alloc B0.out.1.size _).trans (hk1.oneB (by simp; omega) (by omega)), (B0.out.2.below ((Below.refl _ _).alloc (Nat.le_refl _) _) B0.out.2.lt).kept hk1 (by simp; omega) (by simp), hb1, by omega⟩)
  clear hb1 hk1 B0 q0 q1 q2 q3 q4 q5 q6 q7
  obtain ⟨p0, p1, p2, p3, p4, p5, p6, p7⟩ := dcs HF.out.wf S.out.o
  go_wp2_with (fail)
  rw [← hg]
  clear hg
  refine (c_ref47_number o.kind _).mono ?_
  rintro e w1 ⟨rfl, hb1⟩
  rw [FN]
  replace S := Lib.hid (S.out.step hb1)
  clear hb1 p0 p1 p2 p3 p4 p5 p6 p7
  obtain ⟨p0, p1, p2, p3, p4, p5, p6, p7⟩ := dcs HF.out.wf S.out.o
  go_wp2_with (fail)
  refine (c_ref47_device o.kind _).mono ?_
  rintro e w1 ⟨rfl, hb1⟩
  rw [FD]
  replace S := Lib.hid (S.out.step hb1)
  clear hb1 p0 p1 p2 p3 p4 p5 p6 p7
  obtain ⟨p0, p1, p2, p3, p4, p5, p6, p7⟩ := dcs HF.out.wf S.out.o
  have s9 := S.out.r.cell (Deed.getI 2 (by omega))
  have sf := fun i => S.out.r.frozen i
  have slt := S.out.r.lt
  have S2 := Lib.hid (S.out.set (r' := { dz with kind := o.kind, dev := o.dev }) (s' := wz) 2 (.int .i64 o.dev) (by rw [HR.out]; have := Deed.setI (o := { dz with kind := o.kind }) (q := wz) ⟨rfl, rfl⟩ 2 (by omega) o.dev; simpa using this))
  obtain ⟨r0, r1, r2, r3, r4, r5, r6, r7⟩ := dcs HF.out.wf S2.out.o
  go_wp2_with (fail)
  replace S := S2
  clear s9 sf slt S2 r0 r1 r2 r3 r4 r5 r6 r7
  go_ret
  exact RetV.bool HK.out.symm S.out.below
set_option maxHeartbeats 40000000 in
set_option maxRecDepth 10000 in
theorem ref47_Check_E1 (o : Deed) (q : Where) (w : World) (ho : o.fit) (hq : o.at_ w q) (hk : o.kind = 1) (hl : o.e.code = 0) : Calls Tryd.prog 10 #[.agg (o.arr q)] w (RetV w (.bool o.ok)) := by
  have FN : dN o.kind = false := by unfold dN; simp; omega
  have FD : dD o.kind = false := by unfold dD; simp; omega
  have j1 : (o.kind == 1) = true := by simp; omega
  have j3 : (o.kind == 3) = false := by simp; omega
  have j5 : (o.kind == 5) = false := by simp; omega
  have j11 : (o.kind == 11) = false := by simp; omega
  have j12 : (o.kind == 12) = false := by simp; omega
  have d1 : decide (1 ≤ o.kind) = true := by simp; omega
  have d1' : decide (o.kind < 1) = false := by simp; omega
  have d2 : decide (o.kind ≤ 12) = true := by simp; omega
  have d2' : decide (12 < o.kind) = false := by simp; omega
  have tb : (o.e.code == 0) = true := by simpa using hl
  have HK := Lib.hid (show o.ok = decide (({ dz with kind := o.kind, e := o.e } : Deed) = o) by rw [ok_E hk, decide_eq_true hl]; first | rfl | simp)
  clear hl
  have B0 := Lib.hid (At.new w 34 (o.arr q))
  have HF := Lib.hid ho
  have HQ := Lib.hid hq
  obtain ⟨q0, q1, q2, q3, q4, q5, q6, q7⟩ := dcs ho.wf B0.out.2
  obtain ⟨R, hR⟩ : ∃ R : Deed, R = { dz with kind := o.kind } := ⟨_, rfl⟩
  have hRw : R.wf := by rw [hR]; exact ⟨rfl, rfl⟩
  have HFe := Lib.hid ((show R.arr wz = Deed.arr { dz with kind := o.kind } wz by rw [hR]).trans (dz_arr o.kind))
  have HR := Lib.hid hR
  clear ho hq hk hR
  go_enter Tryd.func10, Tryd.ntmps10
  go_wp2_with (with_reducible refine stS 34 (.tmp 3) (.tmp 8) rfl rfl ?_)
  refine Stop.mk (wsB rfl _ _ _ rfl (w.heap.size + 1) _ (by first | rfl | simp) rfl _ (blk_two _ _ _ _) strOpR rfl rfl (by simp [Value.oneCell']) ?_)
  intro w1 hb1 hk1
  rw [← HFe.out] at hb1
  obtain ⟨g, hg⟩ : ∃ g, g = w.heap.size + 1 := ⟨_, rfl⟩
  rw [← hg] at hb1
  have S := Lib.hid (show XC w w1 o R q wz g from ⟨(B0.out.1.alloc B0.out.1.size _).trans (hk1.oneB (by simp; omega) (by omega)), (B0.out.2.below ((Below.refl _ _).alloc (Nat.le_refl _) _) B0.out.2.lt).kept hk1 (by simp; omega) (by simp), hb1, by omega⟩)
  clear hb1 hk1 B0 q0 q1 q2 q3 q4 q5 q6 q7
  obtain ⟨p0, p1, p2, p3, p4, p5, p6, p7⟩ := dcs HF.out.wf S.out.o
  go_wp2_with (fail)
  rw [← hg]
  clear hg
  refine (c_ref47_number o.kind _).mono ?_
  rintro e w1 ⟨rfl, hb1⟩
  rw [FN]
  replace S := Lib.hid (S.out.step hb1)
  clear hb1 p0 p1 p2 p3 p4 p5 p6 p7
  obtain ⟨p0, p1, p2, p3, p4, p5, p6, p7⟩ := dcs HF.out.wf S.out.o
  go_wp2_with (fail)
  refine (c_ref47_device o.kind _).mono ?_
  rintro e w1 ⟨rfl, hb1⟩
  rw [FD]
  replace S := Lib.hid (S.out.step hb1)
  clear hb1 p0 p1 p2 p3 p4 p5 p6 p7
  obtain ⟨p0, p1, p2, p3, p4, p5, p6, p7⟩ := dcs HF.out.wf S.out.o
  go_wp2_with (with_reducible refine slG 30 (.tmp 55) rfl ?_)
  refine Stop.mk (wlG (by rfl) _ _ rfl w.heap.size 4 rfl o.e.arr (deed_edit HF.out.wf S.out.o) strE (by rw [Edit.arr_size, HF.out.wf.e]) ?_)
  go_wp2_with (with_reducible refine stS 30 (.tmp 57) (.tmp 56) rfl rfl ?_)
  refine Stop.mk (wpList_storeAt rfl _ _ _ rfl g 4 o.e.arr rfl rfl _ S.out.r strE (by rw [Edit.arr_size, HF.out.wf.e]) (by rw [Edit.arr_size, HF.out.wf.e, Deed.arr_size hRw]; decide) (Edit.arr_one o.e) ?_)
  intro w3 hb3 hk3
  replace S := Lib.hid (S.out.put (r' := { dz with kind := o.kind, e := o.e }) (s' := wz) hk3 (by have := Deed.putE (q := wz) hRw o.e HF.out.wf.e; rw [this] at hb3; rw [HR.out] at hb3; exact hb3))
  clear hb3 hk3 p0 p1 p2 p3 p4 p5 p6 p7
  obtain ⟨p0, p1, p2, p3, p4, p5, p6, p7⟩ := dcs HF.out.wf S.out.o
  go_wp2_with (with_reducible refine slG 30 (.tmp 60) rfl ?_)
  refine Stop.mk (wlG (by rfl) _ _ rfl w.heap.size 4 rfl o.e.arr (deed_edit HF.out.wf S.out.o) strE (by rw [Edit.arr_size, HF.out.wf.e]) ?_)
  go_wp2_with (fail)
  refine (c_ref19_Check o.e _ HF.out.wf.e HF.out.es HF.out.em).mono ?_
  rintro e w4 ⟨rfl, hb4⟩
  replace S := Lib.hid (S.out.step hb4)
  clear hb4 p0 p1 p2 p3 p4 p5 p6 p7
  obtain ⟨p0, p1, p2, p3, p4, p5, p6, p7⟩ := dcs HF.out.wf S.out.o
  go_wp2_with (with_reducible refine slG 34 (.tmp 3) rfl ?_)
  refine Stop.mk (wlG (by rfl) _ _ rfl g 0 rfl _ S.out.r.all strOpR (Deed.arr_size ⟨HF.out.wf.e, rfl⟩) ?_)
  go_wp2_with (with_reducible refine slG 34 (.tmp 1) rfl ?_)
  refine Stop.mk (wlG (by rfl) _ _ rfl w.heap.size 0 rfl _ S.out.o.all strOpR (Deed.arr_size HF.out.wf) ?_)
  go_wp2_with (fail)
  refine (c_ref47_Same { dz with kind := o.kind, e := o.e } o wz q _ ⟨HF.out.wf.e, rfl⟩ HF.out.wf ⟨In.nil (by simp), In.nil (by simp)⟩ (HQ.out.below S.out.below)).mono ?_
  rintro e w3 ⟨rfl, hb3⟩
  go_wp2_with (fail)
  go_ret
  exact RetV.bool HK.out.symm (S.out.below.trans (hb3.mono S.out.below.size))
set_option maxHeartbeats 40000000 in
set_option maxRecDepth 10000 in
theorem ref47_Check_E0 (o : Deed) (q : Where) (w : World) (ho : o.fit) (hq : o.at_ w q) (hk : o.kind = 1) (hl : ¬ o.e.code = 0) : Calls Tryd.prog 10 #[.agg (o.arr q)] w (RetV w (.bool o.ok)) := by
  have FN : dN o.kind = false := by unfold dN; simp; omega
  have FD : dD o.kind = false := by unfold dD; simp; omega
  have j1 : (o.kind == 1) = true := by simp; omega
  have j3 : (o.kind == 3) = false := by simp; omega
  have j5 : (o.kind == 5) = false := by simp; omega
  have j11 : (o.kind == 11) = false := by simp; omega
  have j12 : (o.kind == 12) = false := by simp; omega
  have d1 : decide (1 ≤ o.kind) = true := by simp; omega
  have d1' : decide (o.kind < 1) = false := by simp; omega
  have d2 : decide (o.kind ≤ 12) = true := by simp; omega
  have d2' : decide (12 < o.kind) = false := by simp; omega
  have tb : (o.e.code == 0) = false := by simpa using hl
  have HK := Lib.hid (show o.ok = false by rw [ok_E hk, decide_eq_false hl]; first | rfl | simp)
  clear hl
  have B0 := Lib.hid (At.new w 34 (o.arr q))
  have HF := Lib.hid ho
  have HQ := Lib.hid hq
  obtain ⟨q0, q1, q2, q3, q4, q5, q6, q7⟩ := dcs ho.wf B0.out.2
  obtain ⟨R, hR⟩ : ∃ R : Deed, R = { dz with kind := o.kind } := ⟨_, rfl⟩
  have hRw : R.wf := by rw [hR]; exact ⟨rfl, rfl⟩
  have HFe := Lib.hid ((show R.arr wz = Deed.arr { dz with kind := o.kind } wz by rw [hR]).trans (dz_arr o.kind))
  have HR := Lib.hid hR
  clear ho hq hk hR
  go_enter Tryd.func10, Tryd.ntmps10
  go_wp2_with (with_reducible refine stS 34 (.tmp 3) (.tmp 8) rfl rfl ?_)
  refine Stop.mk (wsB rfl _ _ _ rfl (w.heap.size + 1) _ (by first | rfl | simp) rfl _ (blk_two _ _ _ _) strOpR rfl rfl (by simp [Value.oneCell']) ?_)
  intro w1 hb1 hk1
  rw [← HFe.out] at hb1
  obtain ⟨g, hg⟩ : ∃ g, g = w.heap.size + 1 := ⟨_, rfl⟩
  rw [← hg] at hb1
  have S := Lib.hid (show XC w w1 o R q wz g from ⟨(B0.out.1.alloc B0.out.1.size _).trans (hk1.oneB (by simp; omega) (by omega)), (B0.out.2.below ((Below.refl _ _).alloc (Nat.le_refl _) _) B0.out.2.lt).kept hk1 (by simp; omega) (by simp), hb1, by omega⟩)
  clear hb1 hk1 B0 q0 q1 q2 q3 q4 q5 q6 q7
  obtain ⟨p0, p1, p2, p3, p4, p5, p6, p7⟩ := dcs HF.out.wf S.out.o
  go_wp2_with (fail)
  rw [← hg]
  clear hg
  refine (c_ref47_number o.kind _).mono ?_
  rintro e w1 ⟨rfl, hb1⟩
  rw [FN]
  replace S := Lib.hid (S.out.step hb1)
  clear hb1 p0 p1 p2 p3 p4 p5 p6 p7
  obtain ⟨p0, p1, p2, p3, p4, p5, p6, p7⟩ := dcs HF.out.wf S.out.o
  go_wp2_with (fail)
  refine (c_ref47_device o.kind _).mono ?_
  rintro e w1 ⟨rfl, hb1⟩
  rw [FD]
  replace S := Lib.hid (S.out.step hb1)
  clear hb1 p0 p1 p2 p3 p4 p5 p6 p7
  obtain ⟨p0, p1, p2, p3, p4, p5, p6, p7⟩ := dcs HF.out.wf S.out.o
  go_wp2_with (with_reducible refine slG 30 (.tmp 55) rfl ?_)
  refine Stop.mk (wlG (by rfl) _ _ rfl w.heap.size 4 rfl o.e.arr (deed_edit HF.out.wf S.out.o) strE (by rw [Edit.arr_size, HF.out.wf.e]) ?_)
  go_wp2_with (with_reducible refine stS 30 (.tmp 57) (.tmp 56) rfl rfl ?_)
  refine Stop.mk (wpList_storeAt rfl _ _ _ rfl g 4 o.e.arr rfl rfl _ S.out.r strE (by rw [Edit.arr_size, HF.out.wf.e]) (by rw [Edit.arr_size, HF.out.wf.e, Deed.arr_size hRw]; decide) (Edit.arr_one o.e) ?_)
  intro w3 hb3 hk3
  replace S := Lib.hid (S.out.put (r' := { dz with kind := o.kind, e := o.e }) (s' := wz) hk3 (by have := Deed.putE (q := wz) hRw o.e HF.out.wf.e; rw [this] at hb3; rw [HR.out] at hb3; exact hb3))
  clear hb3 hk3 p0 p1 p2 p3 p4 p5 p6 p7
  obtain ⟨p0, p1, p2, p3, p4, p5, p6, p7⟩ := dcs HF.out.wf S.out.o
  go_wp2_with (with_reducible refine slG 30 (.tmp 60) rfl ?_)
  refine Stop.mk (wlG (by rfl) _ _ rfl w.heap.size 4 rfl o.e.arr (deed_edit HF.out.wf S.out.o) strE (by rw [Edit.arr_size, HF.out.wf.e]) ?_)
  go_wp2_with (fail)
  refine (c_ref19_Check o.e _ HF.out.wf.e HF.out.es HF.out.em).mono ?_
  rintro e w4 ⟨rfl, hb4⟩
  replace S := Lib.hid (S.out.step hb4)
  clear hb4 p0 p1 p2 p3 p4 p5 p6 p7
  obtain ⟨p0, p1, p2, p3, p4, p5, p6, p7⟩ := dcs HF.out.wf S.out.o
  go_wp2_with (fail)
  go_ret
  exact RetV.bool HK.out.symm S.out.below
end Go.Proofs.YtiedkcijjfmhaaaDoor
