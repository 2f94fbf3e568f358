/-
  Lemmas (walks and plain laws), in one text.
-/
import Derived.Test.YtiedkcijjfmhaaaDoorSc1
import Derived.Test.YtiedkcijjfmhaaaDoorSc3
import Derived.Test.YtiedkcijjfmhaaaDoorSc7
import Derived.Test.YtiedkcijjfmhaaaDoorSc9
import Derived.Test.YtiedkcijjfmhaaaDoorSc13
import Derived.Test.YtiedkcijjfmhaaaDoorSc18
import Derived.Test.YtiedkcijjfmhaaaDoorSc19
import Derived.Test.YtiedkcijjfmhaaaDoorSc20
import Derived.Test.YtiedkcijjfmhaaaDoorSc23
import Derived.Test.YtiedkcijjfmhaaaDoorSc29
import Derived.Laws.Tables
import Derived.Great.BuildSlice
namespace Go.Proofs.YtiedkcijjfmhaaaDoor
open Go.RowKit

theorem strOpR : Str Tryd.prog 34 63 := ⟨⟨_, Tryd.underlying34, rfl⟩, by kernel_rfl⟩
theorem blk_two (w : World) (o : Obj) (t : TypeId) (cs : Array Value) : Blk ((w.alloc o).alloc (.cells cs t)) (w.heap.size + 1) cs := by
  have := Blk.new (w.alloc o) t cs
  simpa using this
structure XC (w w' : World) (o r : Deed) (q s : Where) (g : Nat) : Prop where
  below : Below w.heap.size w w'
  o : Blk w' w.heap.size (o.arr q)
  r : Blk w' g (r.arr s)
  hg : w.heap.size < g
section
variable {w w1 w2 : World} {o r r' : Deed} {q s s' : Where} {g : Nat}
theorem XC.step (c : XC w w1 o r q s g) (hb : Below w1.heap.size w1 w2) : XC w w2 o r q s g := ⟨c.below.trans (hb.mono c.below.size), c.o.below hb c.o.lt, c.r.below hb c.r.lt, c.hg⟩
theorem XC.put (c : XC w w1 o r q s g) (hk : Kept (some g) w1.heap.size w1 w2) (hb : Blk w2 g (r'.arr s')) : XC w w2 o r' q s' g :=
  ⟨c.below.trans (hk.oneB c.below.size (by have := c.hg; omega)), c.o.kept hk c.o.lt (fun e => by injection e with e; have := c.hg; omega), hb, c.hg⟩
theorem XC.set (c : XC w w1 o r q s g) (off : Nat) (v : Value) (e : (r.arr s).setIfInBounds off v = r'.arr s') : XC w (w1.setCell ⟨g, off, none⟩ v) o r' q s' g := c.put (kept_set w1 g off v) (e ▸ c.r.store off v)
end
end Go.Proofs.YtiedkcijjfmhaaaDoor
namespace Go.Proofs.YtiedkcijjfmhaaaDoor
open Go.RowKit

set_option maxHeartbeats 40000000 in
set_option maxRecDepth 10000 in
theorem ref47_Check_N1 (o : Deed) (q : Where) (w : World) (ho : o.fit) (hq : o.at_ w q) (hk : o.kind = 2 ∨ o.kind = 7 ∨ o.kind = 8 ∨ o.kind = 9 ∨ o.kind = 10) (h0 : 0 ≤ o.n) (h1 : o.n ≤ 1099511627776) : Calls Tryd.prog 10 #[.agg (o.arr q)] w (RetV w (.bool o.ok)) := by
  have FN : dN o.kind = true := by unfold dN; simp; omega
  have FD : dD o.kind = false := by unfold dD; simp; omega
  have j1 : (o.kind == 1) = false := by simp; omega
  have j3 : (o.kind == 3) = false := by simp; omega
  have j5 : (o.kind == 5) = false := by simp; omega
  have j11 : (o.kind == 11) = false := by simp; omega
  have j12 : (o.kind == 12) = false := by simp; omega
  have d1 : decide (1 ≤ o.kind) = true := by simp; omega
  have d1' : decide (o.kind < 1) = false := by simp; omega
  have d2 : decide (o.kind ≤ 12) = true := by simp; omega
  have d2' : decide (12 < o.kind) = false := by simp; omega
  have t1 : decide (0 ≤ o.n) = true := by simp; omega
  have t1' : decide (o.n < 0) = false := by simp; omega
  have t2 : decide (o.n ≤ 1099511627776) = true := by simp; omega
  have t2' : decide (1099511627776 < o.n) = false := by simp; omega
  have hl : (0 ≤ o.n ∧ o.n ≤ 1099511627776) := ⟨h0, h1⟩
  have HK := Lib.hid (show o.ok = decide (({ dz with kind := o.kind, n := o.n } : Deed) = o) by rw [ok_N hk, decide_eq_true hl]; first | rfl | simp)
  clear hl
  clear h0 h1
  have B0 := Lib.hid (At.new w 34 (o.arr q))
  have HF := Lib.hid ho
  have HQ := Lib.hid hq
  obtain ⟨q0, q1, q2, q3, q4, q5, q6, q7⟩ := dcs ho.wf B0.out.2
  obtain ⟨R, hR⟩ : ∃ R : Deed, R = { dz with kind := o.kind } := ⟨_, rfl⟩
  have hRw : R.wf := by rw [hR]; exact ⟨rfl, rfl⟩
  have HFe := Lib.hid ((show R.arr wz = Deed.arr { dz with kind := o.kind } wz by rw [hR]).trans (dz_arr o.kind))
  have HR := Lib.hid hR
  clear ho hq hk hR
  go_enter Tryd.func10, Tryd.ntmps10
  go_wp2_with (with_reducible refine stS 34 (.tmp 3) (.tmp 8) rfl rfl ?_)
  refine Stop.mk (wsB rfl _ _ _ rfl (w.heap.size + 1) _ (by first | rfl | simp) rfl _ (blk_two _ _ _ _) strOpR rfl rfl (by simp [Value.oneCell']) ?_)
  intro w1 hb1 hk1
  rw [← HFe.out] at hb1
  obtain ⟨g, hg⟩ : ∃ g, g = w.heap.size + 1 := ⟨_, rfl⟩
  rw [← hg] at hb1
  have S := Lib.hid (show XC w w1 o R q wz g from ⟨(B0.out.1.alloc B0.out.1.size _).trans (hk1.oneB (by simp; omega) (by omega)), (B0.out.2.below ((Below.refl _ _).alloc (Nat.le_refl _) _) B0.out.2.lt).kept hk1 (by simp; omega) (by simp), hb1, by omega⟩)
  clear hb1 hk1 B0 q0 q1 q2 q3 q4 q5 q6 q7
  obtain ⟨p0, p1, p2, p3, p4, p5, p6, p7⟩ := dcs HF.out.wf S.out.o
  go_wp2_with (fail)
  rw [← hg]
  clear hg
  refine (c_ref47_number o.kind _).mono ?_
  rintro e w1 ⟨rfl, hb1⟩
  rw [FN]
  replace S := Lib.hid (S.out.step hb1)
  clear hb1 p0 p1 p2 p3 p4 p5 p6 p7
  obtain ⟨p0, p1, p2, p3, p4, p5, p6, p7⟩ := dcs HF.out.wf S.out.o
  have s9 := S.out.r.cell (Deed.getI 1 (by omega))
  have sf := fun i => S.out.r.frozen i
  have slt := S.out.r.lt
  have S2 := Lib.hid (S.out.set (r' := { dz with kind := o.kind, n := o.n }) (s' := wz) 1 (.int .i64 o.n) (by rw [HR.out]; have := Deed.setI (o := { dz with kind := o.kind }) (q := wz) ⟨rfl, rfl⟩ 1 (by omega) o.n; simpa using this))
  obtain ⟨r0, r1, r2, r3, r4, r5, r6, r7⟩ := dcs HF.out.wf S2.out.o
  go_wp2_with (fail)
  replace S := S2
  clear s9 sf slt S2 r0 r1 r2 r3 r4 r5 r6 r7
  refine (c_ref47_device o.kind _).mono ?_
  rintro e w1 ⟨rfl, hb1⟩
  rw [FD]
  replace S := Lib.hid (S.out.step hb1)
  clear hb1 p0 p1 p2 p3 p4 p5 p6 p7
  obtain ⟨p0, p1, p2, p3, p4, p5, p6, p7⟩ := dcs HF.out.wf S.out.o
  go_wp2_with (with_reducible refine slG 34 (.tmp 3) rfl ?_)
  refine Stop.mk (wlG (by rfl) _ _ rfl g 0 rfl _ S.out.r.all strOpR (Deed.arr_size ⟨rfl, rfl⟩) ?_)
  go_wp2_with (with_reducible refine slG 34 (.tmp 1) rfl ?_)
  refine Stop.mk (wlG (by rfl) _ _ rfl w.heap.size 0 rfl _ S.out.o.all strOpR (Deed.arr_size HF.out.wf) ?_)
  go_wp2_with (fail)
  refine (c_ref47_Same { dz with kind := o.kind, n := o.n } o wz q _ ⟨rfl, rfl⟩ HF.out.wf ⟨In.nil (by simp), In.nil (by simp)⟩ (HQ.out.below S.out.below)).mono ?_
  rintro e w3 ⟨rfl, hb3⟩
  go_wp2_with (fail)
  go_ret
  exact RetV.bool HK.out.symm (S.out.below.trans (hb3.mono S.out.below.size))
set_option maxHeartbeats 40000000 in
set_option maxRecDepth 10000 in
theorem ref47_Check_N2 (o : Deed) (q : Where) (w : World) (ho : o.fit) (hq : o.at_ w q) (hk : o.kind = 2 ∨ o.kind = 7 ∨ o.kind = 8 ∨ o.kind = 9 ∨ o.kind = 10) (h0 : 0 ≤ o.n) (h1 : ¬ o.n ≤ 1099511627776) : Calls Tryd.prog 10 #[.agg (o.arr q)] w (RetV w (.bool o.ok)) := by
  have FN : dN o.kind = true := by unfold dN; simp; omega
  have FD : dD o.kind = false := by unfold dD; simp; omega
  have j1 : (o.kind == 1) = false := by simp; omega
  have j3 : (o.kind == 3) = false := by simp; omega
  have j5 : (o.kind == 5) = false := by simp; omega
  have j11 : (o.kind == 11) = false := by simp; omega
  have j12 : (o.kind == 12) = false := by simp; omega
  have d1 : decide (1 ≤ o.kind) = true := by simp; omega
  have d1' : decide (o.kind < 1) = false := by simp; omega
  have d2 : decide (o.kind ≤ 12) = true := by simp; omega
  have d2' : decide (12 < o.kind) = false := by simp; omega
  have t1 : decide (0 ≤ o.n) = true := by simp; omega
  have t1' : decide (o.n < 0) = false := by simp; omega
  have t2 : decide (o.n ≤ 1099511627776) = false := by simp; omega
  have t2' : decide (1099511627776 < o.n) = true := by simp; omega
  have hl : ¬ (0 ≤ o.n ∧ o.n ≤ 1099511627776) := by omega
  have HK := Lib.hid (show o.ok = false by rw [ok_N hk, decide_eq_false hl]; first | rfl | simp)
  clear hl
  clear h0 h1
  have B0 := Lib.hid (At.new w 34 (o.arr q))
  have HF := Lib.hid ho
  have HQ := Lib.hid hq
  obtain ⟨q0, q1, q2, q3, q4, q5, q6, q7⟩ := dcs ho.wf B0.out.2
  obtain ⟨R, hR⟩ : ∃ R : Deed, R = { dz with kind := o.kind } := ⟨_, rfl⟩
  have hRw : R.wf := by rw [hR]; exact ⟨rfl, rfl⟩
  have HFe := Lib.hid ((show R.arr wz = Deed.arr { dz with kind := o.kind } wz by rw [hR]).trans (dz_arr o.kind))
  have HR := Lib.hid hR
  clear ho hq hk hR
  go_enter Tryd.func10, Tryd.ntmps10
  go_wp2_with (with_reducible refine stS 34 (.tmp 3) (.tmp 8) rfl rfl ?_)
  refine Stop.mk (wsB rfl _ _ _ rfl (w.heap.size + 1) _ (by first | rfl | simp) rfl _ (blk_two _ _ _ _) strOpR rfl rfl (by simp [Value.oneCell']) ?_)
  intro w1 hb1 hk1
  rw [← HFe.out] at hb1
  obtain ⟨g, hg⟩ : ∃ g, g = w.heap.size + 1 := ⟨_, rfl⟩
  rw [← hg] at hb1
  have S := Lib.hid (show XC w w1 o R q wz g from ⟨(B0.out.1.alloc B0.out.1.size _).trans (hk1.oneB (by simp; omega) (by omega)), (B0.out.2.below ((Below.refl _ _).alloc (Nat.le_refl _) _) B0.out.2.lt).kept hk1 (by simp; omega) (by simp), hb1, by omega⟩)
  clear hb1 hk1 B0 q0 q1 q2 q3 q4 q5 q6 q7
  obtain ⟨p0, p1, p2, p3, p4, p5, p6, p7⟩ := dcs HF.out.wf S.out.o
  go_wp2_with (fail)
  rw [← hg]
  clear hg
  refine (c_ref47_number o.kind _).mono ?_
  rintro e w1 ⟨rfl, hb1⟩
  rw [FN]
  replace S := Lib.hid (S.out.step hb1)
  clear hb1 p0 p1 p2 p3 p4 p5 p6 p7
  obtain ⟨p0, p1, p2, p3, p4, p5, p6, p7⟩ := dcs HF.out.wf S.out.o
  have s9 := S.out.r.cell (Deed.getI 1 (by omega))
  have sf := fun i => S.out.r.frozen i
  have slt := S.out.r.lt
  have S2 := Lib.hid (S.out.set (r' := { dz with kind := o.kind, n := o.n }) (s' := wz) 1 (.int .i64 o.n) (by rw [HR.out]; have := Deed.setI (o := { dz with kind := o.kind }) (q := wz) ⟨rfl, rfl⟩ 1 (by omega) o.n; simpa using this))
  obtain ⟨r0, r1, r2, r3, r4, r5, r6, r7⟩ := dcs HF.out.wf S2.out.o
  go_wp2_with (fail)
  replace S := S2
  clear s9 sf slt S2 r0 r1 r2 r3 r4 r5 r6 r7
  refine (c_ref47_device o.kind _).mono ?_
  rintro e w1 ⟨rfl, hb1⟩
  rw [FD]
  replace S := Lib.hid (S.out.step hb1)
  clear hb1 p0 p1 p2 p3 p4 p5 p6 p7
  obtain ⟨p0, p1, p2, p3, p4, p5, p6, p7⟩ := dcs HF.out.wf S.out.o
  go_wp2_with (fail)
  go_ret
  exact RetV.bool HK.out.symm S.out.below
set_option maxHeartbeats 40000000 in
set_option maxRecDepth 10000 in
theorem ref47_Check_N3 (o : Deed) (q : Where) (w : World) (ho : o.fit) (hq : o.at_ w q) (hk : o.kind = 2 ∨ o.kind = 7 ∨ o.kind = 8 ∨ o.kind = 9 ∨ o.kind = 10) (h0 : ¬ 0 ≤ o.n) : Calls Tryd.prog 10 #[.agg (o.arr q)] w (RetV w (.bool o.ok)) := by
  have FN : dN o.kind = true := by unfold dN; simp; omega
  have FD : dD o.kind = false := by unfold dD; simp; omega
  have j1 : (o.kind == 1) = false := by simp; omega
  have j3 : (o.kind == 3) = false := by simp; omega
  have j5 : (o.kind == 5) = false := by simp; omega
  have j11 : (o.kind == 11) = false := by simp; omega
  have j12 : (o.kind == 12) = false := by simp; omega
  have d1 : decide (1 ≤ o.kind) = true := by simp; omega
  have d1' : decide (o.kind < 1) = false := by simp; omega
  have d2 : decide (o.kind ≤ 12) = true := by simp; omega
  have d2' : decide (12 < o.kind) = false := by simp; omega
  have t1 : decide (0 ≤ o.n) = false := by simp; omega
  have t1' : decide (o.n < 0) = true := by simp; omega
  have hl : ¬ (0 ≤ o.n ∧ o.n ≤ 1099511627776) := by omega
  have HK := Lib.hid (show o.ok = false by rw [ok_N hk, decide_eq_false hl]; first | rfl | simp)
  clear hl
  clear h0
  have B0 := Lib.hid (At.new w 34 (o.arr q))
  have HF := Lib.hid ho
  have HQ := Lib.hid hq
  obtain ⟨q0, q1, q2, q3, q4, q5, q6, q7⟩ := dcs ho.wf B0.out.2
  obtain ⟨R, hR⟩ : ∃ R : Deed, R = { dz with kind := o.kind } := ⟨_, rfl⟩
  have hRw : R.wf := by rw [hR]; exact ⟨rfl, rfl⟩
  have HFe := Lib.hid ((show R.arr wz = Deed.arr { dz with kind := o.kind } wz by rw [hR]).trans (dz_arr o.kind))
  have HR := Lib.hid hR
  clear ho hq hk hR
  go_enter Tryd.func10, Tryd.ntmps10
  go_wp2_with (with_reducible refine stS 34 (.tmp 3) (.tmp 8) rfl rfl ?_)
  refine Stop.mk (wsB rfl _ _ _ rfl (w.heap.size + 1) _ (by first | rfl | simp) rfl _ (blk_two _ _ _ _) strOpR rfl rfl (by simp [Value.oneCell']) ?_)
  intro w1 hb1 hk1
  rw [← HFe.out] at hb1
  obtain ⟨g, hg⟩ : ∃ g, g = w.heap.size + 1 := ⟨_, rfl⟩
  rw [← hg] at hb1
  have S := Lib.hid (show XC w w1 o R q wz g from ⟨(B0.out.1.alloc B0.out.1.size _).trans (hk1.oneB (by simp; omega) (by omega)), (B0.out.2.below ((Below.refl _ _).alloc (Nat.le_refl _) _) B0.out.2.lt).kept hk1 (by simp; omega) (by simp), hb1, by omega⟩)
  clear hb1 hk1 B0 q0 q1 q2 q3 q4 q5 q6 q7
  obtain ⟨p0, p1, p2, p3, p4, p5, p6, p7⟩ := dcs HF.out.wf S.out.o
  go_wp2_with (fail)
  rw [← hg]
  clear hg
  refine (c_ref47_number o.kind _).mono ?_
  rintro e w1 ⟨rfl, hb1⟩
  rw [FN]
  replace S := Lib.hid (S.out.step hb1)
  clear hb1 p0 p1 p2 p3 p4 p5 p6 p7
  obtain ⟨p0, p1, p2, p3, p4, p5, p6, p7⟩ := dcs HF.out.wf S.out.o
  have s9 := S.out.r.cell (Deed.getI 1 (by omega))
  have sf := fun i => S.out.r.frozen i
  have slt := S.out.r.lt
  have S2 := Lib.hid (S.out.set (r' := { dz with kind := o.kind, n := o.n }) (s' := wz) 1 (.int .i64 o.n) (by rw [HR.out]; have := Deed.setI (o := { dz with kind := o.kind }) (q := wz) ⟨rfl, rfl⟩ 1 (by omega) o.n; simpa using this))
  obtain ⟨r0, r1, r2, r3, r4, r5, r6, r7⟩ := dcs HF.out.wf S2.out.o
  go_wp2_with (fail)
  replace S := S2
  clear s9 sf slt S2 r0 r1 r2 r3 r4 r5 r6 r7
  refine (c_ref47_device o.kind _).mono ?_
  rintro e w1 ⟨rfl, hb1⟩
  rw [FD]
  replace S := Lib.hid (S.out.step hb1)
  clear hb1 p0 p1 p2 p3 p4 p5 p6 p7
  obtain ⟨p0, p1, p2, p3, p4, p5, p6, p7⟩ := dcs HF.out.wf S.out.o
  go_wp2_with (fail)
  go_ret
  exact RetV.bool HK.out.symm S.out.below
end Go.Proofs.YtiedkcijjfmhaaaDoor
namespace Go.Proofs.YtiedkcijjfmhaaaDoor
open Go.RowKit

set_option maxHeartbeats 40000000 in
set_option maxRecDepth 10000 in
theorem ref47_put_Z (o : Deed) (q : Where) (w : World) (ho : o.fit) (hq : o.at_ w q) (hk : ¬ (1 ≤ o.kind ∧ o.kind ≤ 12)) :
    Calls Tryd.prog 41 #[.agg (o.arr q)] w (RetV w (.string (str (deedB o)))) := by
  have FN : dN o.kind = false := by unfold dN; simp; omega
  have FD : dD o.kind = false := by unfold dD; simp; omega
  have FE : dE o.kind = false := by unfold dE; simp; omega
  have FF : dF o.kind = false := by unfold dF; simp; omega
  have FW : dW o.kind = false := by unfold dW; simp; omega
  have FK : dK o.kind = false := by unfold dK; simp; omega
  have FT : dT o.kind = false := by unfold dT; simp; omega
  have j1 : (o.kind == 1) = false := by simp; omega
  have j3 : (o.kind == 3) = false := by simp; omega
  have j5 : (o.kind == 5) = false := by simp; omega
  have j11 : (o.kind == 11) = false := by simp; omega
  have j12 : (o.kind == 12) = false := by simp; omega
  have hn0 := (num_len o.kind).2
  have HK := Lib.hid (show num o.kind = deedB o by unfold deedB deedT; rw [FE, FN, FD, FF, FW, FK, FT]; simp)
  have HF := Lib.hid ho
  have HQ := Lib.hid hq
  have B0 := Lib.hid (At.new w 34 (o.arr q))
  obtain ⟨p0, p1, p2, p3, p4, p5, p6, p7⟩ := dcs ho.wf B0.out.2
  clear ho hq hk FE FF FW FK FT 
  go_enter Tryd.func41, Tryd.ntmps41
  go_wp2_with (fail)
  refine (c_ref01_Num _ _).mono ?_
  rintro e w2 ⟨rfl, hb2⟩
  replace B0 := Lib.hid (B0.out.step hb2)
  clear hb2 p0 p1 p2 p3 p4 p5 p6 p7
  obtain ⟨p0, p1, p2, p3, p4, p5, p6, p7⟩ := dcs HF.out.wf B0.out.2
  go_wp2_with (fail)
  refine (c_ref47_number o.kind _).mono ?_
  rintro e w1 ⟨rfl, hb1⟩
  rw [FN]
  replace B0 := Lib.hid (B0.out.step hb1)
  clear hb1 p0 p1 p2 p3 p4 p5 p6 p7
  obtain ⟨p0, p1, p2, p3, p4, p5, p6, p7⟩ := dcs HF.out.wf B0.out.2
  go_wp2_with (fail)
  refine (c_ref47_device o.kind _).mono ?_
  rintro e w1 ⟨rfl, hb1⟩
  rw [FD]
  replace B0 := Lib.hid (B0.out.step hb1)
  clear hb1 p0 p1 p2 p3 p4 p5 p6 p7
  obtain ⟨p0, p1, p2, p3, p4, p5, p6, p7⟩ := dcs HF.out.wf B0.out.2
  go_wp2_with (fail)
  go_ret
  exact RetV.str HK.out B0.out.1
set_option maxHeartbeats 40000000 in
set_option maxRecDepth 10000 in
theorem ref47_put_N (o : Deed) (q : Where) (w : World) (ho : o.fit) (hq : o.at_ w q) (hk : o.kind = 2 ∨ o.kind = 7 ∨ o.kind = 8 ∨ o.kind = 9 ∨ o.kind = 10) :
    Calls Tryd.prog 41 #[.agg (o.arr q)] w (RetV w (.string (str (deedB o)))) := by
  have FN : dN o.kind = true := by unfold dN; simp; omega
  have FD : dD o.kind = false := by unfold dD; simp; omega
  have FE : dE o.kind = false := by unfold dE; simp; omega
  have FF : dF o.kind = false := by unfold dF; simp; omega
  have FW : dW o.kind = false := by unfold dW; simp; omega
  have FK : dK o.kind = false := by unfold dK; simp; omega
  have FT : dT o.kind = false := by unfold dT; simp; omega
  have j1 : (o.kind == 1) = false := by simp; omega
  have j3 : (o.kind == 3) = false := by simp; omega
  have j5 : (o.kind == 5) = false := by simp; omega
  have j11 : (o.kind == 11) = false := by simp; omega
  have j12 : (o.kind == 12) = false := by simp; omega
  have hn0 := (num_len o.kind).2
  have hn1 := (num_len o.n).2
  have HK := Lib.hid (show num o.kind ++ num o.n = deedB o by unfold deedB deedT; rw [FE, FN, FD, FF, FW, FK, FT]; simp)
  have HF := Lib.hid ho
  have HQ := Lib.hid hq
  have B0 := Lib.hid (At.new w 34 (o.arr q))
  obtain ⟨p0, p1, p2, p3, p4, p5, p6, p7⟩ := dcs ho.wf B0.out.2
  clear ho hq hk FE FF FW FK FT 
  go_enter Tryd.func41, Tryd.ntmps41
  go_wp2_with (fail)
  refine (c_ref01_Num _ _).mono ?_
  rintro e w2 ⟨rfl, hb2⟩
  replace B0 := Lib.hid (B0.out.step hb2)
  clear hb2 p0 p1 p2 p3 p4 p5 p6 p7
  obtain ⟨p0, p1, p2, p3, p4, p5, p6, p7⟩ := dcs HF.out.wf B0.out.2
  go_wp2_with (fail)
  refine (c_ref47_number o.kind _).mono ?_
  rintro e w1 ⟨rfl, hb1⟩
  rw [FN]
  replace B0 := Lib.hid (B0.out.step hb1)
  clear hb1 p0 p1 p2 p3 p4 p5 p6 p7
  obtain ⟨p0, p1, p2, p3, p4, p5, p6, p7⟩ := dcs HF.out.wf B0.out.2
  have bv : ¬ 9223372036854775807 < (num o.kind).length + (num o.n).length := by omega
  go_wp2_with (fail)
  refine (c_ref01_Num _ _).mono ?_
  rintro e w2 ⟨rfl, hb2⟩
  replace B0 := Lib.hid (B0.out.step hb2)
  clear hb2 p0 p1 p2 p3 p4 p5 p6 p7
  obtain ⟨p0, p1, p2, p3, p4, p5, p6, p7⟩ := dcs HF.out.wf B0.out.2
  go_wp2_with (fail)
  refine (c_ref47_device o.kind _).mono ?_
  rintro e w1 ⟨rfl, hb1⟩
  rw [FD]
  replace B0 := Lib.hid (B0.out.step hb1)
  clear hb1 p0 p1 p2 p3 p4 p5 p6 p7
  obtain ⟨p0, p1, p2, p3, p4, p5, p6, p7⟩ := dcs HF.out.wf B0.out.2
  go_wp2_with (fail)
  go_ret
  exact RetV.str HK.out B0.out.1
set_option maxHeartbeats 40000000 in
set_option maxRecDepth 10000 in
theorem ref47_put_D (o : Deed) (q : Where) (w : World) (ho : o.fit) (hq : o.at_ w q) (hk : o.kind = 4 ∨ o.kind = 6) :
    Calls Tryd.prog 41 #[.agg (o.arr q)] w (RetV w (.string (str (deedB o)))) := by
  have FN : dN o.kind = false := by unfold dN; simp; omega
  have FD : dD o.kind = true := by unfold dD; simp; omega
  have FE : dE o.kind = false := by unfold dE; simp; omega
  have FF : dF o.kind = false := by unfold dF; simp; omega
  have FW : dW o.kind = false := by unfold dW; simp; omega
  have FK : dK o.kind = false := by unfold dK; simp; omega
  have FT : dT o.kind = false := by unfold dT; simp; omega
  have j1 : (o.kind == 1) = false := by simp; omega
  have j3 : (o.kind == 3) = false := by simp; omega
  have j5 : (o.kind == 5) = false := by simp; omega
  have j11 : (o.kind == 11) = false := by simp; omega
  have j12 : (o.kind == 12) = false := by simp; omega
  have hn0 := (num_len o.kind).2
  have hn1 := (num_len o.dev).2
  have HK := Lib.hid (show num o.kind ++ num o.dev = deedB o by unfold deedB deedT; rw [FE, FN, FD, FF, FW, FK, FT]; simp)
  have HF := Lib.hid ho
  have HQ := Lib.hid hq
  have B0 := Lib.hid (At.new w 34 (o.arr q))
  obtain ⟨p0, p1, p2, p3, p4, p5, p6, p7⟩ := dcs ho.wf B0.out.2
  clear ho hq hk FE FF FW FK FT 
  go_enter Tryd.func41, Tryd.ntmps41
  go_wp2_with (fail)
  refine (c_ref01_Num _ _).mono ?_
  rintro e w2 ⟨rfl, hb2⟩
  replace B0 := Lib.hid (B0.out.step hb2)
  clear hb2 p0 p1 p2 p3 p4 p5 p6 p7
  obtain ⟨p0, p1, p2, p3, p4, p5, p6, p7⟩ := dcs HF.out.wf B0.out.2
  go_wp2_with (fail)
  refine (c_ref47_number o.kind _).mono ?_
  rintro e w1 ⟨rfl, hb1⟩
  rw [FN]
  replace B0 := Lib.hid (B0.out.step hb1)
  clear hb1 p0 p1 p2 p3 p4 p5 p6 p7
  obtain ⟨p0, p1, p2, p3, p4, p5, p6, p7⟩ := dcs HF.out.wf B0.out.2
  go_wp2_with (fail)
  refine (c_ref47_device o.kind _).mono ?_
  rintro e w1 ⟨rfl, hb1⟩
  rw [FD]
  replace B0 := Lib.hid (B0.out.step hb1)
  clear hb1 p0 p1 p2 p3 p4 p5 p6 p7
  obtain ⟨p0, p1, p2, p3, p4, p5, p6, p7⟩ := dcs HF.out.wf B0.out.2
  have bv : ¬ 9223372036854775807 < (num o.kind).length + (num o.dev).length := by omega
  go_wp2_with (fail)
  refine (c_ref01_Num _ _).mono ?_
  rintro e w2 ⟨rfl, hb2⟩
  replace B0 := Lib.hid (B0.out.step hb2)
  clear hb2 p0 p1 p2 p3 p4 p5 p6 p7
  obtain ⟨p0, p1, p2, p3, p4, p5, p6, p7⟩ := dcs HF.out.wf B0.out.2
  go_wp2_with (fail)
  go_ret
  exact RetV.str HK.out B0.out.1
end Go.Proofs.YtiedkcijjfmhaaaDoor
namespace Go.Proofs.YtiedkcijjfmhaaaDoor
open Go.RowKit

set_option maxHeartbeats 40000000 in
set_option maxRecDepth 10000 in
theorem ref47_put_E (o : Deed) (q : Where) (w : World) (ho : o.fit) (hq : o.at_ w q) (hk : o.kind = 1) :
    Calls Tryd.prog 41 #[.agg (o.arr q)] w (RetV w (.string (str (deedB o)))) := by
  have FN : dN o.kind = false := by unfold dN; simp; omega
  have FD : dD o.kind = false := by unfold dD; simp; omega
  have FE : dE o.kind = true := by unfold dE; simp; omega
  have FF : dF o.kind = false := by unfold dF; simp; omega
  have FW : dW o.kind = false := by unfold dW; simp; omega
  have FK : dK o.kind = false := by unfold dK; simp; omega
  have FT : dT o.kind = false := by unfold dT; simp; omega
  have j1 : (o.kind == 1) = true := by simp; omega
  have j3 : (o.kind == 3) = false := by simp; omega
  have j5 : (o.kind == 5) = false := by simp; omega
  have j11 : (o.kind == 11) = false := by simp; omega
  have j12 : (o.kind == 12) = false := by simp; omega
  have hn0 := (num_len o.kind).2
  have hn1 := editB_len' o.e
  have HK := Lib.hid (show num o.kind ++ editB o.e = deedB o by unfold deedB deedT; rw [FE, FN, FD, FF, FW, FK, FT]; simp)
  have HF := Lib.hid ho
  have HQ := Lib.hid hq
  have B0 := Lib.hid (At.new w 34 (o.arr q))
  obtain ⟨p0, p1, p2, p3, p4, p5, p6, p7⟩ := dcs ho.wf B0.out.2
  clear ho hq hk FE FF FW FK FT 
  go_enter Tryd.func41, Tryd.ntmps41
  go_wp2_with (fail)
  refine (c_ref01_Num _ _).mono ?_
  rintro e w2 ⟨rfl, hb2⟩
  replace B0 := Lib.hid (B0.out.step hb2)
  clear hb2 p0 p1 p2 p3 p4 p5 p6 p7
  obtain ⟨p0, p1, p2, p3, p4, p5, p6, p7⟩ := dcs HF.out.wf B0.out.2
  go_wp2_with (with_reducible refine slG 30 _ rfl ?_)
  refine Stop.mk (wlG (by rfl) _ _ rfl w.heap.size 4 rfl o.e.arr (deed_edit HF.out.wf B0.out.2) strE (by rw [Edit.arr_size, HF.out.wf.e]) ?_)
  have bv : ¬ 9223372036854775807 < (num o.kind).length + (editB o.e).length := by omega
  go_wp2_with (fail)
  refine (c_ref19_Put o.e _ HF.out.wf.e HF.out.es HF.out.em).mono ?_
  rintro e w2 ⟨rfl, hb2⟩
  replace B0 := Lib.hid (B0.out.step hb2)
  clear hb2 p0 p1 p2 p3 p4 p5 p6 p7
  obtain ⟨p0, p1, p2, p3, p4, p5, p6, p7⟩ := dcs HF.out.wf B0.out.2
  go_wp2_with (fail)
  refine (c_ref47_number o.kind _).mono ?_
  rintro e w1 ⟨rfl, hb1⟩
  rw [FN]
  replace B0 := Lib.hid (B0.out.step hb1)
  clear hb1 p0 p1 p2 p3 p4 p5 p6 p7
  obtain ⟨p0, p1, p2, p3, p4, p5, p6, p7⟩ := dcs HF.out.wf B0.out.2
  go_wp2_with (fail)
  refine (c_ref47_device o.kind _).mono ?_
  rintro e w1 ⟨rfl, hb1⟩
  rw [FD]
  replace B0 := Lib.hid (B0.out.step hb1)
  clear hb1 p0 p1 p2 p3 p4 p5 p6 p7
  obtain ⟨p0, p1, p2, p3, p4, p5, p6, p7⟩ := dcs HF.out.wf B0.out.2
  go_wp2_with (fail)
  go_ret
  exact RetV.str HK.out B0.out.1
set_option maxHeartbeats 40000000 in
set_option maxRecDepth 10000 in
theorem ref47_put_T (o : Deed) (q : Where) (w : World) (ho : o.fit) (hq : o.at_ w q) (hk : o.kind = 12) :
    Calls Tryd.prog 41 #[.agg (o.arr q)] w (RetV w (.string (str (deedB o)))) := by
  have FN : dN o.kind = false := by unfold dN; simp; omega
  have FD : dD o.kind = false := by unfold dD; simp; omega
  have FE : dE o.kind = false := by unfold dE; simp; omega
  have FF : dF o.kind = false := by unfold dF; simp; omega
  have FW : dW o.kind = false := by unfold dW; simp; omega
  have FK : dK o.kind = false := by unfold dK; simp; omega
  have FT : dT o.kind = true := by unfold dT; simp; omega
  have j1 : (o.kind == 1) = false := by simp; omega
  have j3 : (o.kind == 3) = false := by simp; omega
  have j5 : (o.kind == 5) = false := by simp; omega
  have j11 : (o.kind == 11) = false := by simp; omega
  have j12 : (o.kind == 12) = true := by simp; omega
  have hn0 := (num_len o.kind).2
  have hn1 : (strB o.text).length ≤ 4294967007 := by have := ho.t; have := (num_len (o.text.length : Int)).2; unfold strB; rw [List.length_append]; omega
  have HK := Lib.hid (show num o.kind ++ strB o.text = deedB o by unfold deedB deedT; rw [FE, FN, FD, FF, FW, FK, FT]; simp)
  have HF := Lib.hid ho
  have HQ := Lib.hid hq
  have B0 := Lib.hid (At.new w 34 (o.arr q))
  obtain ⟨p0, p1, p2, p3, p4, p5, p6, p7⟩ := dcs ho.wf B0.out.2
  clear ho hq hk FE FF FW FK FT 
  go_enter Tryd.func41, Tryd.ntmps41
  go_wp2_with (fail)
  refine (c_ref01_Num _ _).mono ?_
  rintro e w2 ⟨rfl, hb2⟩
  replace B0 := Lib.hid (B0.out.step hb2)
  clear hb2 p0 p1 p2 p3 p4 p5 p6 p7
  obtain ⟨p0, p1, p2, p3, p4, p5, p6, p7⟩ := dcs HF.out.wf B0.out.2
  go_wp2_with (fail)
  refine (c_ref47_number o.kind _).mono ?_
  rintro e w1 ⟨rfl, hb1⟩
  rw [FN]
  replace B0 := Lib.hid (B0.out.step hb1)
  clear hb1 p0 p1 p2 p3 p4 p5 p6 p7
  obtain ⟨p0, p1, p2, p3, p4, p5, p6, p7⟩ := dcs HF.out.wf B0.out.2
  go_wp2_with (fail)
  refine (c_ref47_device o.kind _).mono ?_
  rintro e w1 ⟨rfl, hb1⟩
  rw [FD]
  replace B0 := Lib.hid (B0.out.step hb1)
  clear hb1 p0 p1 p2 p3 p4 p5 p6 p7
  obtain ⟨p0, p1, p2, p3, p4, p5, p6, p7⟩ := dcs HF.out.wf B0.out.2
  have bv : ¬ 9223372036854775807 < (num o.kind).length + (strB o.text).length := by omega
  go_wp2_with (fail)
  refine (c_ref01_Str o.text _ (by have := HF.out.t; omega)).mono ?_
  rintro e w2 ⟨rfl, hb2⟩
  replace B0 := Lib.hid (B0.out.step hb2)
  clear hb2 p0 p1 p2 p3 p4 p5 p6 p7
  obtain ⟨p0, p1, p2, p3, p4, p5, p6, p7⟩ := dcs HF.out.wf B0.out.2
  go_wp2_with (fail)
  go_ret
  exact RetV.str HK.out B0.out.1
end Go.Proofs.YtiedkcijjfmhaaaDoor
namespace Go.Proofs.YtiedkcijjfmhaaaDoor
open Go.RowKit

set_option maxHeartbeats 40000000 in
set_option maxRecDepth 10000 in
theorem ref47_put_K (o : Deed) (q : Where) (w : World) (ho : o.fit) (hq : o.at_ w q) (hkl : o.keep.length ≤ 100) (hk : o.kind = 11) :
    Calls Tryd.prog 41 #[.agg (o.arr q)] w (RetV w (.string (str (deedB o)))) := by
  have FN : dN o.kind = false := by unfold dN; simp; omega
  have FD : dD o.kind = false := by unfold dD; simp; omega
  have FE : dE o.kind = false := by unfold dE; simp; omega
  have FF : dF o.kind = false := by unfold dF; simp; omega
  have FW : dW o.kind = false := by unfold dW; simp; omega
  have FK : dK o.kind = true := by unfold dK; simp; omega
  have FT : dT o.kind = false := by unfold dT; simp; omega
  have j1 : (o.kind == 1) = false := by simp; omega
  have j3 : (o.kind == 3) = false := by simp; omega
  have j5 : (o.kind == 5) = false := by simp; omega
  have j11 : (o.kind == 11) = true := by simp; omega
  have j12 : (o.kind == 12) = false := by simp; omega
  have hn0 := (num_len o.kind).2
  have hn1 := (num_len (o.keep.length : Int)).2
  obtain ⟨l2, hl2⟩ : ∃ l2, l2 = num o.kind ++ num (o.keep.length : Int) := ⟨_, rfl⟩
  have l2n : l2.length ≤ 14 := by rw [hl2]; simp only [List.length_append]; omega
  have L2 := Lib.hid hl2
  have HK := Lib.hid (show num o.kind ++ num (o.keep.length : Int) ++ o.keep.flatMap num = deedB o by unfold deedB deedT; rw [FE, FN, FD, FF, FW, FK, FT]; simp)
  have HF := Lib.hid ho
  have HQ := Lib.hid hq
  have B0 := Lib.hid (At.new w 34 (o.arr q))
  obtain ⟨p0, p1, p2, p3, p4, p5, p6, p7⟩ := dcs ho.wf B0.out.2
  clear ho hq hk FE FF FW FK FT hl2
  go_enter Tryd.func41, Tryd.ntmps41
  go_wp2_with (fail)
  refine (c_ref01_Num _ _).mono ?_
  rintro e w2 ⟨rfl, hb2⟩
  replace B0 := Lib.hid (B0.out.step hb2)
  clear hb2 p0 p1 p2 p3 p4 p5 p6 p7
  obtain ⟨p0, p1, p2, p3, p4, p5, p6, p7⟩ := dcs HF.out.wf B0.out.2
  go_wp2_with (fail)
  refine (c_ref47_number o.kind _).mono ?_
  rintro e w1 ⟨rfl, hb1⟩
  rw [FN]
  replace B0 := Lib.hid (B0.out.step hb1)
  clear hb1 p0 p1 p2 p3 p4 p5 p6 p7
  obtain ⟨p0, p1, p2, p3, p4, p5, p6, p7⟩ := dcs HF.out.wf B0.out.2
  go_wp2_with (fail)
  refine (c_ref47_device o.kind _).mono ?_
  rintro e w1 ⟨rfl, hb1⟩
  rw [FD]
  replace B0 := Lib.hid (B0.out.step hb1)
  clear hb1 p0 p1 p2 p3 p4 p5 p6 p7
  obtain ⟨p0, p1, p2, p3, p4, p5, p6, p7⟩ := dcs HF.out.wf B0.out.2
  go_wp2_with (fail)
  refine (c_ref01_Num _ _).mono ?_
  rintro e w2 ⟨rfl, hb2⟩
  replace B0 := Lib.hid (B0.out.step hb2)
  clear hb2 p0 p1 p2 p3 p4 p5 p6 p7
  obtain ⟨p0, p1, p2, p3, p4, p5, p6, p7⟩ := dcs HF.out.wf B0.out.2
  have bv2 : ¬ 9223372036854775807 < (num o.kind).length + (num (o.keep.length : Int)).length := by omega
  go_wp2_with (fail)
  rw [← L2.out]
  have hLK := (HQ.out.k).2.2.1
  go_loopw [3, 4] (fun v i wr => ∃ (k : Nat) (l : List UInt8), k ≤ o.keep.length ∧ i = .int .i64 k ∧ v = .string (str l) ∧ l.length ≤ 14 + 7 * k ∧ Hid (l = num o.kind ++ num (o.keep.length : Int) ++ (o.keep.take k).flatMap num) ∧ Hid (At w wr (o.arr q)))
    (fun _ i _ => o.keep.length - (intOf i).toNat)
  case atStart => exact ⟨0, l2, by omega, rfl, rfl, by omega, by show _ = _; rw [L2.out]; simp, B0.out⟩
  case round =>
    obtain ⟨k, acc, hk, rfl, rfl, han, HA, B0⟩ := hrel
    obtain ⟨p0, p1, p2, p3, p4, p5, p6, p7⟩ := dcs HF.out.wf B0.out.2
    by_cases hlt : k < o.keep.length
    · obtain ⟨b9, off9, hA9, hb9, hrow9⟩ := (HQ.out.below B0.out.1).k.at hlt
      have e0 : wr.cell? ⟨b9, off9 + k, none⟩ = some (.int .i64 o.keep[k]) := by have := hrow9 k hlt 0 _ rfl; simpa using this
      rw [hA9] at p6 ⊢
      have hi1 : (0 : Int) ≤ (k : Int) := by omega
      have hi2 : (k : Int) < (o.keep.length : Int) := by omega
      have hnx := (num_len o.keep[k]).2
      have hkt := Lib.hid (show (o.keep.take (k + 1)).flatMap num = (o.keep.take k).flatMap num ++ num o.keep[k] by rw [List.take_succ_eq_append_getElem hlt, List.flatMap_append, List.flatMap_cons, List.flatMap_nil, List.append_nil])
      obtain ⟨x, hx⟩ : ∃ x, x = o.keep[k] := ⟨_, rfl⟩
      rw [← hx] at e0 hnx
      replace hkt := Lib.hid (by have := hkt.out; rw [← hx] at this; exact this)
      clear hx hrow9
      obtain ⟨l3, hl3⟩ : ∃ l, l = acc ++ num x := ⟨_, rfl⟩
      have hl3n : l3.length ≤ 14 + 7 * (k + 1) := by rw [hl3, List.length_append]; omega
      have HA3 := Lib.hid (show l3 = num o.kind ++ num (o.keep.length : Int) ++ (o.keep.take (k + 1)).flatMap num by rw [hl3, HA.out, hkt.out]; simp)
      have bv3 : ¬ 9223372036854775807 < acc.length + (num x).length := by omega
      have L3 := Lib.hid hl3
      clear hl3 HA hkt
      go_wp2_with (fail)
      refine (c_ref01_Num _ _).mono ?_
      rintro e w2 ⟨rfl, hb2⟩
      replace B0 := Lib.hid (B0.out.step hb2)
      clear hb2 p0 p1 p2 p3 p4 p5 p6 p7
      go_wp2_with (fail)
      rw [← L3.out]
      go_roundw
      case rel => exact ⟨k + 1, l3, by omega, by go_num, rfl, hl3n, HA3.out, B0.out⟩
      case measure => simp [intOf]; omega
    · obtain rfl : k = o.keep.length := by omega
      have hdd : decide ((o.keep.length : Int) < (o.keep.length : Int)) = false := by simp
      replace HA := Lib.hid (by have := HA.out; rw [List.take_length] at this; exact this)
      go_wp2_with (fail)
      go_ret
      exact RetV.str (by rw [HA.out]; exact HK.out) B0.out.1
end Go.Proofs.YtiedkcijjfmhaaaDoor
namespace Go.Proofs.YtiedkcijjfmhaaaDoor
open Go.RowKit

set_option maxHeartbeats 40000000 in
set_option maxRecDepth 10000 in
theorem ref47_put_F (o : Deed) (q : Where) (w : World) (ho : o.fit) (hq : o.at_ w q) (hk : o.kind = 3) :
    Calls Tryd.prog 41 #[.agg (o.arr q)] w (RetV w (.string (str (deedB o)))) := by
  have FN : dN o.kind = false := by unfold dN; simp; omega
  have FD : dD o.kind = true := by unfold dD; simp; omega
  have FE : dE o.kind = false := by unfold dE; simp; omega
  have FF : dF o.kind = true := by unfold dF; simp; omega
  have FW : dW o.kind = false := by unfold dW; simp; omega
  have FK : dK o.kind = false := by unfold dK; simp; omega
  have FT : dT o.kind = false := by unfold dT; simp; omega
  have j1 : (o.kind == 1) = false := by simp; omega
  have j3 : (o.kind == 3) = true := by simp; omega
  have j5 : (o.kind == 5) = false := by simp; omega
  have j11 : (o.kind == 11) = false := by simp; omega
  have j12 : (o.kind == 12) = false := by simp; omega
  have hn0 := (num_len o.kind).2
  have hmm := ho.m
  have hn1 := (num_len o.dev).2
  have hn2 := (num_len o.id).2
  have hn3 := (num_len (o.mask : Int)).2
  have hn6 := patchB_len o.p
  have hn7 := putB_len o.f
  obtain ⟨l4, hl4⟩ : ∃ l4, l4 = num o.kind ++ num o.dev := ⟨_, rfl⟩
  have l4n : l4.length ≤ 14 := by rw [hl4]; simp only [List.length_append]; omega
  have L4 := Lib.hid hl4
  obtain ⟨l5, hl5⟩ : ∃ l5, l5 = l4 ++ putB o.f := ⟨_, rfl⟩
  have l5n : l5.length ≤ 1700 := by rw [hl5]; simp only [List.length_append]; omega
  have L5 := Lib.hid hl5
  obtain ⟨l6, hl6⟩ : ∃ l6, l6 = l5 ++ num (o.mask : Int) := ⟨_, rfl⟩
  have l6n : l6.length ≤ 1707 := by rw [hl6]; simp only [List.length_append]; omega
  have L6 := Lib.hid hl6
  have HK := Lib.hid (show l6 = deedB o by rw [hl6, hl5, hl4]; unfold deedB deedT; rw [FE, FN, FD, FF, FW, FK, FT]; simp)
  have HF := Lib.hid ho
  have HQ := Lib.hid hq
  have B0 := Lib.hid (At.new w 34 (o.arr q))
  obtain ⟨p0, p1, p2, p3, p4, p5, p6, p7⟩ := dcs ho.wf B0.out.2
  clear ho hq hk FE FF FW FK FT hl4 hl5 hl6
  go_enter Tryd.func41, Tryd.ntmps41
  go_wp2_with (fail)
  refine (c_ref01_Num _ _).mono ?_
  rintro e w2 ⟨rfl, hb2⟩
  replace B0 := Lib.hid (B0.out.step hb2)
  clear hb2 p0 p1 p2 p3 p4 p5 p6 p7
  obtain ⟨p0, p1, p2, p3, p4, p5, p6, p7⟩ := dcs HF.out.wf B0.out.2
  go_wp2_with (fail)
  refine (c_ref47_number o.kind _).mono ?_
  rintro e w1 ⟨rfl, hb1⟩
  rw [FN]
  replace B0 := Lib.hid (B0.out.step hb1)
  clear hb1 p0 p1 p2 p3 p4 p5 p6 p7
  obtain ⟨p0, p1, p2, p3, p4, p5, p6, p7⟩ := dcs HF.out.wf B0.out.2
  go_wp2_with (fail)
  refine (c_ref47_device o.kind _).mono ?_
  rintro e w1 ⟨rfl, hb1⟩
  rw [FD]
  replace B0 := Lib.hid (B0.out.step hb1)
  clear hb1 p0 p1 p2 p3 p4 p5 p6 p7
  obtain ⟨p0, p1, p2, p3, p4, p5, p6, p7⟩ := dcs HF.out.wf B0.out.2
  have bv : ¬ 9223372036854775807 < (num o.kind).length + (num o.dev).length := by omega
  go_wp2_with (fail)
  refine (c_ref01_Num _ _).mono ?_
  rintro e w2 ⟨rfl, hb2⟩
  replace B0 := Lib.hid (B0.out.step hb2)
  clear hb2 p0 p1 p2 p3 p4 p5 p6 p7
  obtain ⟨p0, p1, p2, p3, p4, p5, p6, p7⟩ := dcs HF.out.wf B0.out.2
  go_wp2_with (fail)
  rw [← L4.out]
  clear p0 p1 p2 p3 p4 p5 p6 p7
  have Bw := Lib.hid B0.out.2
  have HIw := Lib.hid (HQ.out.below B0.out.1)
  refine wp_region_rel [Sp.eq (.string (str l4)), Sp.eq (.pointer (some ⟨w.heap.size, 33, none⟩)), Sp.eq (.slice q.A o.f.length q.n), Sp.eq (.string (str (putB o.f))), Sp.eq (.string (str l5)), Sp.eq (.pointer (some ⟨w.heap.size, 34, none⟩)), Sp.eq (.int .u32 o.mask), Sp.eq (.int .i64 o.mask), Sp.eq (.string (str (num o.mask))), Sp.eq (.string (str l6)), Sp.eq (.string (str l6))] 88 (by kernel_rfl) (by kernel_rfl) rfl rfl ?_ ?_
  · refine ⟨?_, ?_, ?_, ?_, ?_, ?_, ?_, ?_, ?_, ?_, ?_, trivial⟩
    all_goals (intro u W2 hb2 hd; simp [Deps, Region.binds, Sp.eq_holds] at hd; simp only [putDeps, dstOf, Region.binds])
    case refine_1 =>
      go_wp2_with (fail); exact RelEnd.mk rfl (Below.refl _ _) rfl
    case refine_2 =>
      go_wp2_with (fail); exact RelEnd.mk rfl (Below.refl _ _) rfl
    case refine_3 =>
      have q : World.cell? W2 ⟨w.heap.size, 33, none⟩ = some (.slice q.A o.f.length q.n) := (Bw.out.below hb2 Bw.out.lt).cell (Deed.getF HF.out.wf 0 (by omega))
      go_wp2_with (fail); exact RelEnd.mk rfl (Below.refl _ _) rfl
    case refine_4 =>
      go_wp2_with (go_at_call 77; refine (c_ref16_Put o.f q.A q.n _ (HIw.out.below hb2).f HF.out.fs).mono ?_; rintro e3 W3 ⟨rfl, hb3⟩)
      exact RelEnd.mk rfl hb3 rfl
    case refine_5 =>
      have bv : ¬ 9223372036854775807 < l4.length + (putB o.f).length := by omega
      go_wp2_with (fail)
      exact RelEnd.mk rfl (Below.refl _ _) (by show _ = _; rw [L5.out]; rfl)
    case refine_6 =>
      go_wp2_with (fail); exact RelEnd.mk rfl (Below.refl _ _) rfl
    case refine_7 =>
      have q : World.cell? W2 ⟨w.heap.size, 34, none⟩ = some (.int .u32 o.mask) := (Bw.out.below hb2 Bw.out.lt).cell (Deed.getF HF.out.wf 1 (by omega))
      go_wp2_with (fail); exact RelEnd.mk rfl (Below.refl _ _) rfl
    case refine_8 =>
      have kw : IntKind.i64.wrap (o.mask : Int) = o.mask := IntWalk.i64_in _ (by omega)
      go_wp2_with (fail); exact RelEnd.mk rfl (Below.refl _ _) rfl
    case refine_9 =>
      go_wp2_with (go_at_call 40; refine (c_ref01_Num _ _).mono ?_; rintro e3 W3 ⟨rfl, hb3⟩)
      exact RelEnd.mk rfl hb3 rfl
    case refine_10 =>
      have bv : ¬ 9223372036854775807 < l5.length + (num (o.mask : Int)).length := by omega
      go_wp2_with (fail)
      exact RelEnd.mk rfl (Below.refl _ _) (by show _ = _; rw [L6.out]; rfl)
    case refine_11 =>
      go_wp2_with (fail); exact RelEnd.mk rfl (Below.refl _ _) rfl
  · intro u W2 hb2 hold
    simp only [RelHold, Sp.eq_holds, Nat.reduceAdd] at hold
    obtain ⟨-, -, -, -, -, -, -, -, -, -, hE, -⟩ := hold
    simp only [putAll, Act.put, Nat.reduceAdd, List.setIfInBounds_toArray, List.set_cons_zero, List.set_cons_succ]
    have e4 := hE
    replace B0 := Lib.hid (B0.out.step hb2)
    rw [e4]
    clear hE e4 Bw HIw hb2
    obtain ⟨p0, p1, p2, p3, p4, p5, p6, p7⟩ := dcs HF.out.wf B0.out.2
    go_wp2_with (fail)
    go_ret
    exact RetV.str HK.out B0.out.1
set_option maxHeartbeats 40000000 in
set_option maxRecDepth 10000 in
theorem ref47_put_W (o : Deed) (q : Where) (w : World) (ho : o.fit) (hq : o.at_ w q) (hk : o.kind = 5) :
    Calls Tryd.prog 41 #[.agg (o.arr q)] w (RetV w (.string (str (deedB o)))) := by
  have FN : dN o.kind = false := by unfold dN; simp; omega
  have FD : dD o.kind = true := by unfold dD; simp; omega
  have FE : dE o.kind = false := by unfold dE; simp; omega
  have FF : dF o.kind = false := by unfold dF; simp; omega
  have FW : dW o.kind = true := by unfold dW; simp; omega
  have FK : dK o.kind = false := by unfold dK; simp; omega
  have FT : dT o.kind = false := by unfold dT; simp; omega
  have j1 : (o.kind == 1) = false := by simp; omega
  have j3 : (o.kind == 3) = false := by simp; omega
  have j5 : (o.kind == 5) = true := by simp; omega
  have j11 : (o.kind == 11) = false := by simp; omega
  have j12 : (o.kind == 12) = false := by simp; omega
  have hn0 := (num_len o.kind).2
  have hn1 := (num_len o.dev).2
  have hn2 := (num_len o.id).2
  have hn3 := (num_len (o.mask : Int)).2
  have hn6 := patchB_len o.p
  have hn7 := putB_len o.f
  obtain ⟨l4, hl4⟩ : ∃ l4, l4 = num o.kind ++ num o.dev := ⟨_, rfl⟩
  have l4n : l4.length ≤ 14 := by rw [hl4]; simp only [List.length_append]; omega
  have L4 := Lib.hid hl4
  obtain ⟨l5, hl5⟩ : ∃ l5, l5 = l4 ++ num o.id := ⟨_, rfl⟩
  have l5n : l5.length ≤ 21 := by rw [hl5]; simp only [List.length_append]; omega
  have L5 := Lib.hid hl5
  obtain ⟨l6, hl6⟩ : ∃ l6, l6 = l5 ++ patchB o.p := ⟨_, rfl⟩
  have l6n : l6.length ≤ 1000 := by rw [hl6]; simp only [List.length_append]; omega
  have L6 := Lib.hid hl6
  have HK := Lib.hid (show l6 = deedB o by rw [hl6, hl5, hl4]; unfold deedB deedT; rw [FE, FN, FD, FF, FW, FK, FT]; simp)
  have HF := Lib.hid ho
  have HQ := Lib.hid hq
  have B0 := Lib.hid (At.new w 34 (o.arr q))
  obtain ⟨p0, p1, p2, p3, p4, p5, p6, p7⟩ := dcs ho.wf B0.out.2
  clear ho hq hk FE FF FW FK FT hl4 hl5 hl6
  go_enter Tryd.func41, Tryd.ntmps41
  go_wp2_with (fail)
  refine (c_ref01_Num _ _).mono ?_
  rintro e w2 ⟨rfl, hb2⟩
  replace B0 := Lib.hid (B0.out.step hb2)
  clear hb2 p0 p1 p2 p3 p4 p5 p6 p7
  obtain ⟨p0, p1, p2, p3, p4, p5, p6, p7⟩ := dcs HF.out.wf B0.out.2
  go_wp2_with (fail)
  refine (c_ref47_number o.kind _).mono ?_
  rintro e w1 ⟨rfl, hb1⟩
  rw [FN]
  replace B0 := Lib.hid (B0.out.step hb1)
  clear hb1 p0 p1 p2 p3 p4 p5 p6 p7
  obtain ⟨p0, p1, p2, p3, p4, p5, p6, p7⟩ := dcs HF.out.wf B0.out.2
  go_wp2_with (fail)
  refine (c_ref47_device o.kind _).mono ?_
  rintro e w1 ⟨rfl, hb1⟩
  rw [FD]
  replace B0 := Lib.hid (B0.out.step hb1)
  clear hb1 p0 p1 p2 p3 p4 p5 p6 p7
  obtain ⟨p0, p1, p2, p3, p4, p5, p6, p7⟩ := dcs HF.out.wf B0.out.2
  have bv : ¬ 9223372036854775807 < (num o.kind).length + (num o.dev).length := by omega
  go_wp2_with (fail)
  refine (c_ref01_Num _ _).mono ?_
  rintro e w2 ⟨rfl, hb2⟩
  replace B0 := Lib.hid (B0.out.step hb2)
  clear hb2 p0 p1 p2 p3 p4 p5 p6 p7
  obtain ⟨p0, p1, p2, p3, p4, p5, p6, p7⟩ := dcs HF.out.wf B0.out.2
  go_wp2_with (fail)
  rw [← L4.out]
  clear p0 p1 p2 p3 p4 p5 p6 p7
  have Bw := Lib.hid B0.out.2
  have HIw := Lib.hid (HQ.out.below B0.out.1)
  refine wp_region_rel [Sp.eq (.string (str l4)), Sp.eq (.pointer (some ⟨w.heap.size, 3, none⟩)), Sp.eq (.int .i64 o.id), Sp.eq (.string (str (num o.id))), Sp.eq (.string (str l5)), Sp.eq (.pointer (some ⟨w.heap.size, 35, none⟩)), Sp.eq (.agg o.p.arr), Sp.eq (.string (str (patchB o.p))), Sp.eq (.string (str l6)), Sp.eq (.string (str l6))] 88 (by kernel_rfl) (by kernel_rfl) rfl rfl ?_ ?_
  · refine ⟨?_, ?_, ?_, ?_, ?_, ?_, ?_, ?_, ?_, ?_, trivial⟩
    all_goals (intro u W2 hb2 hd; simp [Deps, Region.binds, Sp.eq_holds] at hd; simp only [putDeps, dstOf, Region.binds])
    case refine_1 =>
      go_wp2_with (fail); exact RelEnd.mk rfl (Below.refl _ _) rfl
    case refine_2 =>
      go_wp2_with (fail); exact RelEnd.mk rfl (Below.refl _ _) rfl
    case refine_3 =>
      have q : World.cell? W2 ⟨w.heap.size, 3, none⟩ = some (.int .i64 o.id) := (Bw.out.below hb2 Bw.out.lt).cell (Deed.getI 3 (by omega))
      go_wp2_with (fail); exact RelEnd.mk rfl (Below.refl _ _) rfl
    case refine_4 =>
      go_wp2_with (go_at_call 40; refine (c_ref01_Num _ _).mono ?_; rintro e3 W3 ⟨rfl, hb3⟩)
      exact RelEnd.mk rfl hb3 rfl
    case refine_5 =>
      have bv : ¬ 9223372036854775807 < l4.length + (num o.id).length := by omega
      go_wp2_with (fail)
      exact RelEnd.mk rfl (Below.refl _ _) (by show _ = _; rw [L5.out]; rfl)
    case refine_6 =>
      go_wp2_with (fail); exact RelEnd.mk rfl (Below.refl _ _) rfl
    case refine_7 =>
      go_wp2_with (with_reducible refine slG 28 _ rfl ?_)
      refine Stop.mk (wlG (by simp [Region.wanted]) _ _ rfl w.heap.size 35 rfl o.p.arr (deed_patch HF.out.wf (Bw.out.below hb2 Bw.out.lt)) strP (by rw [Patch.arr_size, HF.out.wf.p]) ?_)
      go_wp2_with (fail); exact RelEnd.mk rfl (Below.refl _ _) rfl
    case refine_8 =>
      go_wp2_with (go_at_call 78; refine (c_ref08_PutPatch o.p _ HF.out.pm HF.out.wf.p HF.out.ps).mono ?_; rintro e3 W3 ⟨rfl, hb3⟩)
      exact RelEnd.mk rfl hb3 rfl
    case refine_9 =>
      have bv : ¬ 9223372036854775807 < l5.length + (patchB o.p).length := by omega
      go_wp2_with (fail)
      exact RelEnd.mk rfl (Below.refl _ _) (by show _ = _; rw [L6.out]; rfl)
    case refine_10 =>
      go_wp2_with (fail); exact RelEnd.mk rfl (Below.refl _ _) rfl
  · intro u W2 hb2 hold
    simp only [RelHold, Sp.eq_holds, Nat.reduceAdd] at hold
    obtain ⟨-, -, -, -, -, -, -, -, -, hE, -⟩ := hold
    simp only [putAll, Act.put, Nat.reduceAdd, List.setIfInBounds_toArray, List.set_cons_zero, List.set_cons_succ]
    have e4 := hE
    replace B0 := Lib.hid (B0.out.step hb2)
    rw [e4]
    clear hE e4 Bw HIw hb2
    obtain ⟨p0, p1, p2, p3, p4, p5, p6, p7⟩ := dcs HF.out.wf B0.out.2
    go_wp2_with (fail)
    go_ret
    exact RetV.str HK.out B0.out.1
end Go.Proofs.YtiedkcijjfmhaaaDoor
namespace Go.Proofs.YtiedkcijjfmhaaaDoor
open Go.RowKit

theorem c_ref47_put (o : Deed) (q : Where) (w : World) (ho : o.fit) (hq : o.at_ w q) (hkl : o.keep.length ≤ 100) : Calls Tryd.prog 41 #[.agg (o.arr q)] w (RetV w (.string (str (deedB o)))) := by
  rcases (show ¬ (1 ≤ o.kind ∧ o.kind ≤ 12) ∨ o.kind = 1 ∨ (o.kind = 2 ∨ o.kind = 7 ∨ o.kind = 8 ∨ o.kind = 9 ∨ o.kind = 10) ∨ o.kind = 3 ∨ (o.kind = 4 ∨ o.kind = 6) ∨ o.kind = 5 ∨ o.kind = 11 ∨ o.kind = 12 by omega) with hk | hk | hk | hk | hk | hk | hk | hk
  · exact ref47_put_Z o q w ho hq hk
  · exact ref47_put_E o q w ho hq hk
  · exact ref47_put_N o q w ho hq hk
  · exact ref47_put_F o q w ho hq hk
  · exact ref47_put_D o q w ho hq hk
  · exact ref47_put_W o q w ho hq hk
  · exact ref47_put_K o q w ho hq hkl hk
  · exact ref47_put_T o q w ho hq hk
end Go.Proofs.YtiedkcijjfmhaaaDoor
namespace Go.Proofs.YtiedkcijjfmhaaaDoor
open Go.RowKit

theorem c_script_put (b : List UInt8) (B : Option Addr) (cb : Nat) (o : Deed) (q : Where) (w : World) (hb : InB w B cb b) (hbl : b.length ≤ 800000) (hT : Tab w) (ho : o.fit) (hq : o.at_ w q) (htx : o.text.length ≤ 10000) (hkl : o.keep.length ≤ 100) :
    Calls Tryd.prog 39 #[.slice B b.length cb, .agg (o.arr q)] w (RetS 1 bc 5 w (b ++ deedB o)) := by
  rcases (show ¬ (1 ≤ o.kind ∧ o.kind ≤ 12) ∨ o.kind = 1 ∨ (o.kind = 2 ∨ o.kind = 7 ∨ o.kind = 8 ∨ o.kind = 9 ∨ o.kind = 10) ∨ o.kind = 3 ∨ (o.kind = 4 ∨ o.kind = 6) ∨ o.kind = 5 ∨ o.kind = 11 ∨ o.kind = 12 by omega) with hk | hk | hk | hk | hk | hk | hk | hk
  · exact script_put_Z b B cb o q w hb hbl hT ho hq hk
  · exact script_put_E b B cb o q w hb hbl hT ho hq hk
  · exact script_put_N b B cb o q w hb hbl hT ho hq hk
  · exact script_put_F b B cb o q w hb hbl hT ho hq hk
  · exact script_put_D b B cb o q w hb hbl hT ho hq hk
  · exact script_put_W b B cb o q w hb hbl hT ho hq hk
  · exact script_put_K b B cb o q w hb hbl hT ho hq hkl hk
  · exact script_put_T b B cb o q w hb hbl hT ho hq htx hk
end Go.Proofs.YtiedkcijjfmhaaaDoor
namespace Go.Proofs.YtiedkcijjfmhaaaDoor
open Go.RowKit

theorem stop_build {P : Program} {w : World} {ops : Array Oper} {rest : List Oper} {o : Oper} {a : Act} {Q : Exit → Act → World → Prop} (t : TypeId) (parts : Array (Nat × Operand)) (_ : o.op = .build t parts) (h : Stop (wpList P ops Q (o :: rest) a w)) : wpList P ops Q (o :: rest) a w := h
theorem wpList_buildD {P : Program} {w : World} {ops : Array Oper} {rest : List Oper} {o : Oper} {a : Act} {Q : Exit → Act → World → Prop} (hgd : o.guard = none) (t : TypeId) (parts : Array (Nat × Operand)) (ho : o.op = .build t parts) (ps : List (Nat × Value))
    (hp : (parts.toList.map fun (i, x) => (i, a.eval x)) = ps) (cells : Array Value) (hc : P.built t ps = some cells)
    (h : wpList P ops Q rest (a.put o.dst (.agg cells)) w) : wpList P ops Q (o :: rest) a w := by
  refine wpList_plain hgd fun K hK => ?_
  unfold Oper.wp execOp
  simp only [ho, Sem.run_bind, run_build w t _ cells (by rw [Array.toList_map, hp]; exact hc), Result.andThen_ok]
  exact hK _ _ h
def opPlace : Array (Nat × Nat) := #[(0, 1), (1, 1), (2, 1), (3, 1), (4, 29), (33, 1), (34, 1), (35, 26), (61, 1), (62, 1)]
theorem fill_one (pl : Nat → Option (Nat × Nat)) (cells : Array Value) (i off : Nat) (v : Value) (rest : List (Nat × Value)) (hp : pl i = some (off, 1)) (hv : v.cells = #[v]) (hs : off + 1 ≤ cells.size) : Instr.fill pl cells ((i, v) :: rest) = Instr.fill pl (cells.setIfInBounds off v) rest := by
  rw [Instr.fill, hp, hv]
  simp
  omega
theorem foldl_put : ∀ (vs : List Value) (cs : Array Value) (off k : Nat), (vs.zipIdx k).foldl (fun cs (x : Value × Nat) => cs.setIfInBounds (off + x.2) x.1) cs = putAt cs (off + k) vs
  | [], _, _, _ => rfl
  | v :: r, cs, off, k => by
    rw [List.zipIdx_cons, List.foldl_cons, foldl_put r, putAt]
    rfl
theorem fill_agg (pl : Nat → Option (Nat × Nat)) (cells : Array Value) (i off n : Nat) (E : Array Value) (rest : List (Nat × Value)) (hp : pl i = some (off, n)) (hn : E.size = n) (hs : off + n ≤ cells.size) : Instr.fill pl cells ((i, .agg E) :: rest) = Instr.fill pl (putAt cells off E.toList) rest := by
  subst hn
  rw [Instr.fill, hp]
  have hc : (Value.agg E).cells = E := rfl
  simp only [hc]
  rw [if_neg (by simp; omega)]
  congr 1
  have := foldl_put E.toList cells off 0
  rw [Nat.add_zero] at this
  rw [← this, ← Array.foldl_toList, Array.toList_zipIdx]
theorem built_fill (o : Deed) (q : Where) (hwf : o.wf) :
    Instr.fill (opPlace[·]?) (dz.arr wz) [(0, .int .i64 o.kind), (1, .int .i64 o.n), (2, .int .i64 o.dev), (3, .int .i64 o.id), (4, .agg o.e.arr), (5, .slice q.A o.f.length q.n), (6, .int .u32 o.mask), (7, .agg o.p.arr), (8, .slice q.K o.keep.length q.m), (9, .string (str o.text))] = some (o.arr q) := by
  have s0 : (dz.arr wz).size = 63 := Deed.arr_size dz_wf
  rw [fill_one _ _ 0 0 _ _ rfl rfl (by simp [s0])]
  rw [fill_one _ _ 1 1 _ _ rfl rfl (by simp [s0])]
  rw [fill_one _ _ 2 2 _ _ rfl rfl (by simp [s0])]
  rw [fill_one _ _ 3 3 _ _ rfl rfl (by simp [s0])]
  rw [fill_agg _ _ 4 4 29 _ _ rfl (by rw [Edit.arr_size, hwf.e]) (by simp [s0])]
  rw [fill_one _ _ 5 33 _ _ rfl rfl (by simp [putAt_size, s0])]
  rw [fill_one _ _ 6 34 _ _ rfl rfl (by simp [putAt_size, s0])]
  rw [fill_agg _ _ 7 35 26 _ _ rfl (by rw [Patch.arr_size, hwf.p]) (by simp [putAt_size, s0])]
  rw [fill_one _ _ 8 61 _ _ rfl rfl (by simp [putAt_size, s0])]
  rw [fill_one _ _ 9 62 _ _ rfl rfl (by simp [putAt_size, s0])]
  have e0 : (Deed.arr ⟨0, 0, 0, 0, ez, [], 0, pz, [], []⟩ wz).setIfInBounds 0 (.int .i64 o.kind) = Deed.arr ⟨o.kind, 0, 0, 0, ez, [], 0, pz, [], []⟩ wz := by have := Deed.setI (o := ⟨0, 0, 0, 0, ez, [], 0, pz, [], []⟩) (q := wz) ⟨rfl, rfl⟩ 0 (by omega) o.kind; simpa using this
  have e1 : (Deed.arr ⟨o.kind, 0, 0, 0, ez, [], 0, pz, [], []⟩ wz).setIfInBounds 1 (.int .i64 o.n) = Deed.arr ⟨o.kind, o.n, 0, 0, ez, [], 0, pz, [], []⟩ wz := by have := Deed.setI (o := ⟨o.kind, 0, 0, 0, ez, [], 0, pz, [], []⟩) (q := wz) ⟨rfl, rfl⟩ 1 (by omega) o.n; simpa using this
  have e2 : (Deed.arr ⟨o.kind, o.n, 0, 0, ez, [], 0, pz, [], []⟩ wz).setIfInBounds 2 (.int .i64 o.dev) = Deed.arr ⟨o.kind, o.n, o.dev, 0, ez, [], 0, pz, [], []⟩ wz := by have := Deed.setI (o := ⟨o.kind, o.n, 0, 0, ez, [], 0, pz, [], []⟩) (q := wz) ⟨rfl, rfl⟩ 2 (by omega) o.dev; simpa using this
  have e3 : (Deed.arr ⟨o.kind, o.n, o.dev, 0, ez, [], 0, pz, [], []⟩ wz).setIfInBounds 3 (.int .i64 o.id) = Deed.arr ⟨o.kind, o.n, o.dev, o.id, ez, [], 0, pz, [], []⟩ wz := by have := Deed.setI (o := ⟨o.kind, o.n, o.dev, 0, ez, [], 0, pz, [], []⟩) (q := wz) ⟨rfl, rfl⟩ 3 (by omega) o.id; simpa using this
  have e4 : putAt (Deed.arr ⟨o.kind, o.n, o.dev, o.id, ez, [], 0, pz, [], []⟩ wz) 4 o.e.arr.toList = Deed.arr ⟨o.kind, o.n, o.dev, o.id, o.e, [], 0, pz, [], []⟩ wz := Deed.putE (o := ⟨o.kind, o.n, o.dev, o.id, ez, [], 0, pz, [], []⟩) (q := wz) ⟨rfl, rfl⟩ o.e hwf.e
  have e5 : (Deed.arr ⟨o.kind, o.n, o.dev, o.id, o.e, [], 0, pz, [], []⟩ wz).setIfInBounds 33 (.slice q.A o.f.length q.n) = Deed.arr ⟨o.kind, o.n, o.dev, o.id, o.e, o.f, 0, pz, [], []⟩ ⟨q.A, q.n, none, 0⟩ := Deed.setF (o := ⟨o.kind, o.n, o.dev, o.id, o.e, [], 0, pz, [], []⟩) (q := wz) ⟨hwf.e, rfl⟩ q.A o.f q.n
  have e6 : (Deed.arr ⟨o.kind, o.n, o.dev, o.id, o.e, o.f, 0, pz, [], []⟩ ⟨q.A, q.n, none, 0⟩).setIfInBounds 34 (.int .u32 o.mask) = Deed.arr ⟨o.kind, o.n, o.dev, o.id, o.e, o.f, o.mask, pz, [], []⟩ ⟨q.A, q.n, none, 0⟩ := Deed.setM (o := ⟨o.kind, o.n, o.dev, o.id, o.e, o.f, 0, pz, [], []⟩) (q := ⟨q.A, q.n, none, 0⟩) ⟨hwf.e, rfl⟩ o.mask
  have e7 : putAt (Deed.arr ⟨o.kind, o.n, o.dev, o.id, o.e, o.f, o.mask, pz, [], []⟩ ⟨q.A, q.n, none, 0⟩) 35 o.p.arr.toList = Deed.arr ⟨o.kind, o.n, o.dev, o.id, o.e, o.f, o.mask, o.p, [], []⟩ ⟨q.A, q.n, none, 0⟩ := Deed.putP (o := ⟨o.kind, o.n, o.dev, o.id, o.e, o.f, o.mask, pz, [], []⟩) (q := ⟨q.A, q.n, none, 0⟩) ⟨hwf.e, rfl⟩ o.p hwf.p
  have e8 : (Deed.arr ⟨o.kind, o.n, o.dev, o.id, o.e, o.f, o.mask, o.p, [], []⟩ ⟨q.A, q.n, none, 0⟩).setIfInBounds 61 (.slice q.K o.keep.length q.m) = Deed.arr ⟨o.kind, o.n, o.dev, o.id, o.e, o.f, o.mask, o.p, o.keep, []⟩ ⟨q.A, q.n, q.K, q.m⟩ := Deed.setK (o := ⟨o.kind, o.n, o.dev, o.id, o.e, o.f, o.mask, o.p, [], []⟩) (q := ⟨q.A, q.n, none, 0⟩) ⟨hwf.e, hwf.p⟩ q.K o.keep q.m
  have e9 : (Deed.arr ⟨o.kind, o.n, o.dev, o.id, o.e, o.f, o.mask, o.p, o.keep, []⟩ ⟨q.A, q.n, q.K, q.m⟩).setIfInBounds 62 (.string (str o.text)) = Deed.arr ⟨o.kind, o.n, o.dev, o.id, o.e, o.f, o.mask, o.p, o.keep, o.text⟩ ⟨q.A, q.n, q.K, q.m⟩ := Deed.setT (o := ⟨o.kind, o.n, o.dev, o.id, o.e, o.f, o.mask, o.p, o.keep, []⟩) (q := ⟨q.A, q.n, q.K, q.m⟩) ⟨hwf.e, hwf.p⟩ o.text
  have ed : dz.arr wz = Deed.arr ⟨0, 0, 0, 0, ez, [], 0, pz, [], []⟩ wz := rfl
  rw [ed, e0, e1, e2, e3, e4, e5, e6, e7, e8, e9]
  rfl
theorem built_To (ps : List (Nat × Value)) : Tryd.prog.built 38 ps = Instr.fill (opPlace[·]?) #[.int .i64 0, .int .i64 0, .int .i64 0, .int .i64 0, .int .i64 0, .int .i64 0, .int .i64 0, .int .u32 0, .int .u32 0, .int .i64 0, .int .i64 0, .string (str []), .int .i64 0, .int .i64 0, .string (str []), .int .i64 0, .int .i64 0, .string (str []), .int .i64 0, .int .i64 0, .string (str []), .int .i64 0, .int .i64 0, .string (str []), .int .i64 0, .int .i64 0, .string (str []), .int .i64 0, .int .i64 0, .string (str []), .int .i64 0, .int .i64 0, .string (str []), .slice none 0 0, .int .u32 0, .int .u32 0, .int .u32 0, .int .i64 0, .int .i64 0, .string (str []), .int .i64 0, .int .i64 0, .string (str []), .int .i64 0, .int .i64 0, .string (str []), .int .i64 0, .int .i64 0, .string (str []), .int .i64 0, .int .i64 0, .string (str []), .int .i64 0, .int .i64 0, .string (str []), .int .i64 0, .int .i64 0, .string (str []), .int .i64 0, .int .i64 0, .string (str []), .slice none 0 0, .string (str [])] ps := by kernel_rfl
set_option maxHeartbeats 4000000 in
set_option maxRecDepth 10000 in
theorem c_law47_To (x : DQ) (w : World) : Calls Tryd.prog 9 #[.agg (x.o.arr x.q)] w (RetV w (.agg (x.o.arr x.q))) := by
  obtain ⟨o, q, hwf⟩ := x
  show Calls _ _ #[.agg (o.arr q)] w (RetV w (.agg (o.arr q)))
  have HF := Lib.hid hwf
  have B0 := Lib.hid ((At.new w 34 (o.arr q)).alloc (.cells #[.int .i64 0, .int .i64 0, .int .i64 0, .int .i64 0, .int .i64 0, .int .i64 0, .int .i64 0, .int .u32 0, .int .u32 0, .int .i64 0, .int .i64 0, .string (str []), .int .i64 0, .int .i64 0, .string (str []), .int .i64 0, .int .i64 0, .string (str []), .int .i64 0, .int .i64 0, .string (str []), .int .i64 0, .int .i64 0, .string (str []), .int .i64 0, .int .i64 0, .string (str []), .int .i64 0, .int .i64 0, .string (str []), .int .i64 0, .int .i64 0, .string (str []), .slice none 0 0, .int .u32 0, .int .u32 0, .int .u32 0, .int .i64 0, .int .i64 0, .string (str []), .int .i64 0, .int .i64 0, .string (str []), .int .i64 0, .int .i64 0, .string (str []), .int .i64 0, .int .i64 0, .string (str []), .int .i64 0, .int .i64 0, .string (str []), .int .i64 0, .int .i64 0, .string (str []), .int .i64 0, .int .i64 0, .string (str []), .int .i64 0, .int .i64 0, .string (str []), .slice none 0 0, .string (str [])] 38))
  have HB := Lib.hid (built_fill o q hwf)
  obtain ⟨p0, p1, p2, p3, p4, p5, p6, p7⟩ := dcs hwf B0.out.2
  clear hwf
  go_enter Tryd.func9, Tryd.ntmps9
  go_wp2_with (with_reducible refine slG 30 (.tmp 11) rfl ?_)
  refine Stop.mk (wlG (by rfl) _ _ rfl w.heap.size 4 rfl o.e.arr (deed_edit HF.out B0.out.2) strE (by rw [Edit.arr_size, HF.out.e]) ?_)
  go_wp2_with (with_reducible refine slG 28 (.tmp 17) rfl ?_)
  refine Stop.mk (wlG (by rfl) _ _ rfl w.heap.size 35 rfl o.p.arr (deed_patch HF.out B0.out.2) strP (by rw [Patch.arr_size, HF.out.p]) ?_)
  go_wp2_with (with_reducible refine stop_build 38 _ rfl ?_)
  refine Stop.mk (wpList_buildD rfl _ _ rfl [(0, .int .i64 o.kind), (1, .int .i64 o.n), (2, .int .i64 o.dev), (3, .int .i64 o.id), (4, .agg o.e.arr), (5, .slice q.A o.f.length q.n), (6, .int .u32 o.mask), (7, .agg o.p.arr), (8, .slice q.K o.keep.length q.m), (9, .string (str o.text))] (by rfl) (o.arr q) ((built_To _).trans (by rw [← dz_arr0]; exact HB.out)) ?_)
  go_wp2_with (with_reducible refine stS 38 (.tmp 2) (.tmp 23) rfl rfl ?_)
  refine Stop.mk (wsB rfl _ _ _ rfl (w.heap.size + 1) _ (by first | rfl | simp) rfl _ (blk_two _ _ _ _) strOp (Deed.arr_size HF.out) (by rw [Deed.arr_size HF.out]; rfl) (Deed.arr_ones HF.out) ?_)
  intro w3 hb3 hk3
  have hbw := Lib.hid (B0.out.1.trans (hk3.oneB (by simp; omega) (by omega)))
  clear hk3 p0 p1 p2 p3 p4 p5 p6 p7
  go_wp2_with (fail)
  exact bodyPost_ret (results_B rfl (by first | rfl | simp) hb3 strOp (Deed.arr_size HF.out)) rfl ⟨rfl, hbw.out⟩
end Go.Proofs.YtiedkcijjfmhaaaDoor
namespace Go.Proofs.YtiedkcijjfmhaaaDoor
open Go.RowKit

theorem putAt_full (cs : Array Value) (vs : List Value) (h : cs.size = vs.length) : putAt cs 0 vs = vs.toArray := by
  apply Array.ext_getElem?
  intro i
  have hr : vs.toArray[i]? = vs[i]? := by simp
  rw [hr]
  by_cases hi : i < vs.length
  · have := putAt_in vs cs 0 i (by omega) hi
    rwa [Nat.zero_add] at this
  · rw [Array.getElem?_eq_none (by rw [putAt_size]; omega), List.getElem?_eq_none (by omega)]
theorem stop_lit {P : Program} {w : World} {ops : Array Oper} {rest : List Oper} {o : Oper} {a : Act} {Q : Exit → Act → World → Prop} (t : TypeId) (parts : Array (Nat × Operand)) (_ : o.op = .buildSlice t 1 parts) (h : Stop (wpList P ops Q (o :: rest) a w)) : wpList P ops Q (o :: rest) a w := h
theorem wpList_lit1 {P : Program} {w : World} {ops : Array Oper} {rest : List Oper} {o : Oper} {a : Act} {Q : Exit → Act → World → Prop} (hg : o.guard = none) (t e : TypeId) (x : Operand) (ho : o.op = .buildSlice t 1 #[(0, x)]) {n bytes : Nat} (I : Elem P t e n bytes) (hn : n ≤ 16777216) (E : Array Value)
    (hx : a.eval x = .agg E) (hE : E.size = n) (h : wpList P ops Q rest (a.put o.dst (.slice (some ⟨w.heap.size, 0, none⟩) 1 1)) (w.alloc (.cells E e))) : wpList P ops Q (o :: rest) a w := by
  obtain ⟨i, z, h1, h2, h3, h4, h5⟩ := I.info
  have hp := I.pos
  refine wpList_buildSlice hg t e 1 _ ho E i z I.under h1 h2 (by omega) (by omega) ?_ h
  have e0 : ((#[(0, x)] : Array (Nat × Operand)).map fun (i, x) => (i, a.eval x)).toList = [(0, .agg E)] := by simp [hx]
  rw [e0, fill_agg _ _ 0 0 n E [] (by simp [h3]) hE (by simp; omega)]
  rw [putAt_full _ _ (by simp; omega)]
  simp [Instr.fill]
end Go.Proofs.YtiedkcijjfmhaaaDoor
namespace Go.Proofs.YtiedkcijjfmhaaaDoor
open Go.RowKit

theorem elemOp : Elem Tryd.prog 45 38 63 656 := Elem.mk' (z := .agg (dz.arr wz)) Tryd.underlying45 (by rw [dz_arr0]; kernel_rfl) (Deed.arr_size dz_wf) (by omega) (by omega)
theorem DQ.flat_take (l : List DQ) {k : Nat} (h : k < l.length) : (l.take (k + 1)).flatMap DQ.cells = (l.take k).flatMap DQ.cells ++ l[k].cells := by
  rw [List.take_succ_eq_append_getElem h, List.flatMap_append, List.flatMap_cons, List.flatMap_nil, List.append_nil]
/-- An element of a slice of acts, as it is loaded. -/
theorem InAt {w : World} {A : Option Addr} {c : Nat} {l : List DQ} (h : In 63 DQ.cells w A c l) {k : Nat} (hk : k < l.length) :
    ∃ b off, A = some ⟨b, off, none⟩ ∧ b < w.heap.size ∧ ∀ w', Below w.heap.size w w' → ∀ j u, (l[k].o.arr l[k].q)[j]? = some u → w'.cell? ⟨b, off + k * 63 + j, none⟩ = some u := by
  obtain ⟨b, off, hA, hb, hrow⟩ := h.at hk
  refine ⟨b, off, hA, hb, fun w' hw j u hu => ?_⟩
  exact (hrow.below hw hb) k hk j u (by unfold DQ.cells; rw [Array.getElem?_toList]; exact hu)
set_option maxHeartbeats 4000000 in
set_option maxRecDepth 10000 in
theorem c_law47_List (l : List DQ) (A : Option Addr) (c : Nat) (w : World) (h : In 63 DQ.cells w A c l) (hl : l.length ≤ 100000) : Calls Tryd.prog 14 #[.slice A l.length c] w (RetS 63 DQ.cells 38 w l) := by
  have hL := h.1
  have hC := h.2.1
  have HH := Lib.hid h
  clear h
  go_enter Tryd.func14, Tryd.ntmps14
  go_wp2_with (fail)
  go_loopw [3, 4] (fun v i wr => ∃ (k : Nat), k ≤ l.length ∧ i = .int .i64 k ∧ Hid (Below w.heap.size w wr ∧ wr.ownsRow w.heap.size 38 63 v k ((l.take k).flatMap DQ.cells))) (fun _ i _ => l.length - (intOf i).toNat)
  case atStart => exact ⟨0, by omega, rfl, (by repeat (first | exact Below.refl _ _ | refine Below.drew ?_ | refine Below.alloc ?_ (by first | omega | (simp; done) | (simp; omega)) _ | refine Below.setCell ?_ (by first | omega | (simp; done) | (simp; omega)) _ | refine Below.trans ?_ (Below.mono (by assumption) (by first | omega | (simp; done) | (simp; omega))))), World.ownsRow_lit w #[] 0 (Nat.le_refl _) (by unfold maxLen; omega) (by simp)⟩
  case round =>
    obtain ⟨k, hk, rfl, S⟩ := hrel
    obtain ⟨A9, c9, rfl, -, -⟩ := own_form S.out.2
    have hz := S.out.1.size
    by_cases hlt : k < l.length
    · have d1 : decide ((k : Int) < (l.length : Int)) = true := by simp; omega
      obtain ⟨b, off, hA, hb, hat⟩ := InAt HH.out hlt
      have HT := Lib.hid (DQ.flat_take l hlt)
      have HAT := Lib.hid hat
      obtain ⟨x, hx⟩ : ∃ x, x = l[k] := ⟨_, rfl⟩
      rw [← hx] at HT HAT
      have hi1 : (0 : Int) ≤ (k : Int) := by omega
      have hi2 : (k : Int) < (l.length : Int) := by omega
      clear hat hx
      subst hA
      go_wp2_with (with_reducible refine slG 34 (.tmp 15) rfl ?_)
      refine Stop.mk (wlG (by rfl) _ _ rfl b (off + k * 63) rfl (x.o.arr x.q) (HAT.out _ S.out.1) strOpR (Deed.arr_size x.wf) ?_)
      go_wp2_with (fail)
      refine (c_law47_To x _).mono ?_
      rintro e w2 ⟨rfl, hb2⟩
      have S2 := Lib.hid (show Below w.heap.size w w2 ∧ w2.ownsRow w.heap.size 38 63 (.slice A9 k c9) k ((l.take k).flatMap DQ.cells) from ⟨S.out.1.trans (hb2.mono hz), own_below S.out.2 hb2⟩)
      clear hb2 S
      have hz2 := S2.out.1.size
      go_wp2_with (with_reducible refine stop_lit 45 _ rfl ?_)
      refine Stop.mk (wpList_lit1 rfl _ _ _ rfl elemOp (by omega) _ rfl (Deed.arr_size x.wf) ?_)
      go_wp2_with ((at_builtin; refine Stop.out ?_))
      refine Stop.mk (wpList_app _ rfl _ _ elemOp rfl w.heap.size (.slice A9 k c9) k _ rfl (own_below S2.out.2 ((Below.refl _ _).alloc (Nat.le_refl _) _)) _ 1 1 x.cells rfl (by have := Src.new w2 x.cells 38 63 x.cells_len; unfold DQ.cells at this ⊢; simpa using this) x.one (by omega) (by simp; omega) ?_)
      intro v4 w4 own4 _ hb4 _
      have S4 := Lib.hid (show Below w.heap.size w w4 ∧ w4.ownsRow w.heap.size 38 63 v4 (k + 1) ((l.take (k + 1)).flatMap DQ.cells) from ⟨S2.out.1.trans (((Below.refl _ _).alloc hz2 _).trans hb4), by rw [HT.out]; exact own4⟩)
      clear own4 hb4 S2
      go_wp2_with (fail)
      go_roundw
      case rel => exact ⟨k + 1, by omega, by go_num, S4.out⟩
      case measure => simp [intOf]; omega
    · obtain rfl : k = l.length := by omega
      have d1 : decide ((l.length : Int) < (l.length : Int)) = false := by simp
      go_wp2_with (fail)
      go_ret
      refine ⟨_, rfl, ?_, S.out.1⟩
      have := S.out.2
      rwa [List.take_length] at this
end Go.Proofs.YtiedkcijjfmhaaaDoor
namespace Go.Proofs.YtiedkcijjfmhaaaDoor
open Go.RowKit

theorem raw_large {w : World} {o : Deed} {q : Where} (h : o.raw w q) : ∀ w', Below w.heap.size w w' → Calls Tryd.prog 19 #[.slice q.A o.f.length q.n] w' (RetV w' (.bool (large o.f))) := by
  intro w' hb
  by_cases h100 : 100 < o.f.length
  · have : large o.f = true := by unfold large; simp [h100]
    rw [this]
    exact c_law10_Large_long o.f.length q.A q.n w' h100 h.f1 h.f2
  · have hin : InN w q.A q.n o.f := ⟨h.f1, h.f2, by omega, h.f3⟩
    exact c_law10_Large o.f q.A q.n w' (hin.below hb) h.f4
theorem deed_ef {w : World} {g : Nat} {c : Deed} {q : Where} (h : c.wf) (hb : Blk w g (c.arr q)) (j : Nat) (u : Value) (hu : (farr c.e.p.f)[j]? = some u) : w.cell? ⟨g, 9 + j, none⟩ = some u := by
  have e1 : c.e.arr[3 + (2 + j)]? = some u := by rw [Edit.arr_tail, Patch.arr_tail]; exact hu
  have := deed_edit h hb (3 + (2 + j)) u e1
  rwa [show 4 + (3 + (2 + j)) = 9 + j by omega] at this
theorem deed_pf {w : World} {g : Nat} {c : Deed} {q : Where} (h : c.wf) (hb : Blk w g (c.arr q)) (j : Nat) (u : Value) (hu : (farr c.p.f)[j]? = some u) : w.cell? ⟨g, 37 + j, none⟩ = some u := by
  have := deed_patch h hb (2 + j) u (by rw [Patch.arr_tail]; exact hu)
  rwa [show 35 + (2 + j) = 37 + j by omega] at this
theorem RawQ.at {w : World} {A : Option Addr} {c : Nat} {l : List DQ} (h : RawQ w A c l) {k : Nat} (hk : k < l.length) :
    ∃ b off, A = some ⟨b, off, none⟩ ∧ b < w.heap.size ∧ ∀ w', Below w.heap.size w w' → ∀ j u, (l[k].o.arr l[k].q)[j]? = some u → w'.cell? ⟨b, off + k * 63 + j, none⟩ = some u := by
  rcases h.row with h0 | ⟨b, off, hA, hb, hrow⟩
  · subst h0; simp at hk
  · exact ⟨b, off, hA, hb, fun w' hw j u hu => (hrow.below hw hb) k hk j u (by unfold DQ.cells; rw [Array.getElem?_toList]; exact hu)⟩
theorem longAll_at {l : List DQ} {k : Nat} (hk : k < l.length) (h : l[k].o.long = true) : longAll l = true := by
  unfold longAll
  rw [Bool.or_eq_true]
  right
  exact List.any_eq_true.2 ⟨_, List.getElem_mem hk, h⟩
set_option maxHeartbeats 8000000 in
set_option maxRecDepth 10000 in
theorem c_law47_Long (l : List DQ) (A : Option Addr) (c : Nat) (w : World) (h : RawQ w A c l) : Calls Tryd.prog 6 #[.slice A l.length c] w (RetV w (.bool (longAll l))) := by
  have hL := h.le
  have hC := h.cap
  have HH := Lib.hid h
  by_cases h120 : 120 < l.length
  · have HB := Lib.hid (show longAll l = true by unfold longAll; simp [h120])
    have d1 : decide (120 < (l.length : Int)) = true := by simp; omega
    clear h h120
    go_enter Tryd.func6, Tryd.ntmps6
    go_wp2_with (fail)
    go_ret
    exact RetV.bool HB.out.symm (Below.refl _ _)
  have d1 : decide (120 < (l.length : Int)) = false := by simp; omega
  clear h
  go_enter Tryd.func6, Tryd.ntmps6
  go_wp2_with (fail)
  go_loopw [3, 4] (fun i _ wr => ∃ (k : Nat), k ≤ l.length ∧ i = .int .i64 k ∧ Hid (∀ x ∈ l.take k, x.o.long = false) ∧ Hid (Below w.heap.size w wr)) (fun i _ _ => l.length - (intOf i).toNat)
  case atStart => exact ⟨0, by omega, rfl, by intro x hx; simp at hx, Below.refl _ _⟩
  case round =>
    obtain ⟨k, hk, rfl, OK, S⟩ := hrel
    have hz := S.out.size
    by_cases hlt : k < l.length
    · have d2 : decide ((k : Int) < (l.length : Int)) = true := by simp; omega
      obtain ⟨b, off, hA, hb, hat⟩ := HH.out.at hlt
      have HR := Lib.hid (HH.out.raw _ (List.getElem_mem hlt))
      have HAT := Lib.hid hat
      have HY := Lib.hid (longAll_at hlt)
      have HN := Lib.hid (show l[k].o.long = false → ∀ x ∈ l.take (k + 1), x.o.long = false from fun e x hx => by
        rw [List.take_succ_eq_append_getElem hlt] at hx
        rcases List.mem_append.1 hx with hx | hx
        · exact OK.out x hx
        · rw [List.mem_singleton.1 hx]; exact e)
      obtain ⟨x, hx⟩ : ∃ x, x = l[k] := ⟨_, rfl⟩
      rw [← hx] at HAT HR HY HN
      obtain ⟨o, q, hwf⟩ := x
      have HE := Lib.hid (show o.long = (longF o.e.p.f || (longF o.p.f || (large o.f || (decide (100 < o.keep.length) || decide (6000 < o.text.length))))) from rfl)
      replace HAT := Lib.hid (show ∀ w', Below w.heap.size w w' → ∀ j u, (o.arr q)[j]? = some u → w'.cell? ⟨b, off + k * 63 + j, none⟩ = some u from HAT.out)
      replace HR := Lib.hid (show o.raw w q from HR.out)
      replace HY := Lib.hid (show o.long = true → longAll l = true from HY.out)
      replace HN := Lib.hid (show o.long = false → ∀ x ∈ l.take (k + 1), x.o.long = false from HN.out)
      have HF := Lib.hid hwf
      have HL := Lib.hid (raw_large HR.out)
      have hq1 := HR.out.k.1
      have hq2 := HR.out.k.2.1
      have hq3 := HR.out.t
      have hi1 : (0 : Int) ≤ (k : Int) := by omega
      have hi2 : (k : Int) < (l.length : Int) := by omega
      clear hat hx hwf
      subst hA
      go_wp2_with (with_reducible refine slG 34 (.tmp 16) rfl ?_)
      refine Stop.mk (wlG (by rfl) _ _ rfl b (off + k * 63) rfl (o.arr q) (HAT.out _ S.out) strOpR (Deed.arr_size HF.out) ?_)
      go_wp2_with (with_reducible refine stS 34 (.tmp 4) (.tmp 17) rfl rfl ?_)
      refine Stop.mk (wsB rfl _ _ _ rfl wr.heap.size _ (by first | rfl | simp) rfl _ (Blk.new _ _ _) strOpR (Deed.arr_size HF.out) (by rw [Deed.arr_size HF.out]; rfl) (Deed.arr_ones HF.out) ?_)
      intro w3 hb3 hk3
      have B3 := fresh_below hk3
      obtain ⟨g, hg⟩ : ∃ g, g = wr.heap.size := ⟨_, rfl⟩
      rw [← hg] at hb3 ⊢
      have G := Lib.hid hb3
      replace S := Lib.hid (S.out.trans (B3.mono hz))
      clear hb3 hk3 B3 hg hz
      cases h1 : longF o.e.p.f
      all_goals
        go_wp2_with (with_reducible refine slG 26 (.tmp 20) rfl ?_)
        refine Stop.mk (wlG (by first | rfl | simp [Region.wanted, yielded]) _ _ rfl g 9 rfl (farr o.e.p.f) (deed_ef HF.out G.out) strF (by rw [farr_size, HF.out.e]) ?_)
        go_wp2_with (fail)
        refine (c_Large o.e.p.f _ HF.out.e).mono ?_
        rintro e w4 ⟨rfl, hb4⟩
        rw [h1]
        replace HE := Lib.hid (HE.out.trans (by rw [h1]))
        replace G := Lib.hid (G.out.below hb4 G.out.lt)
        replace S := Lib.hid (S.out.trans (hb4.mono S.out.size))
        clear hb4 h1
      rotate_left
      · have HY2 := Lib.hid (HY.out (by rw [HE.out]; rfl))
        go_wp2_with (fail)
        go_ret
        exact RetV.bool HY2.out.symm S.out
      cases h2 : longF o.p.f
      all_goals
        go_wp2_with (with_reducible refine slG 26 (.tmp 25) rfl ?_)
        refine Stop.mk (wlG (by first | rfl | simp [Region.wanted, yielded]) _ _ rfl g 37 rfl (farr o.p.f) (deed_pf HF.out G.out) strF (by rw [farr_size, HF.out.p]) ?_)
        go_wp2_with (fail)
        refine (c_Large o.p.f _ HF.out.p).mono ?_
        rintro e w4 ⟨rfl, hb4⟩
        rw [h2]
        replace HE := Lib.hid (HE.out.trans (by rw [h2]))
        replace G := Lib.hid (G.out.below hb4 G.out.lt)
        replace S := Lib.hid (S.out.trans (hb4.mono S.out.size))
        clear hb4 h2
      rotate_left
      · have HY2 := Lib.hid (HY.out (by rw [HE.out]; rfl))
        go_wp2_with (fail)
        go_ret
        exact RetV.bool HY2.out.symm S.out
      obtain ⟨p0, p1, p2, p3, p4, p5, p6, p7⟩ := dcs HF.out G.out
      cases h3 : large o.f
      all_goals
        go_wp2_with (fail)
        refine (HL.out _ S.out).mono ?_
        rintro e w4 ⟨rfl, hb4⟩
        rw [h3]
        replace HE := Lib.hid (HE.out.trans (by rw [h3]))
        replace G := Lib.hid (G.out.below hb4 G.out.lt)
        replace S := Lib.hid (S.out.trans (hb4.mono S.out.size))
        clear hb4 h3 p0 p1 p2 p3 p4 p5 p6 p7
      rotate_left
      · have HY2 := Lib.hid (HY.out (by rw [HE.out]; rfl))
        go_wp2_with (fail)
        go_ret
        exact RetV.bool HY2.out.symm S.out
      obtain ⟨p0, p1, p2, p3, p4, p5, p6, p7⟩ := dcs HF.out G.out
      by_cases h4 : 100 < o.keep.length
      · have d4 : decide (100 < (o.keep.length : Int)) = true := by simp; omega
        have HY2 := Lib.hid (HY.out (by rw [HE.out]; simp [h4]))
        go_wp2_with (fail)
        go_ret
        exact RetV.bool HY2.out.symm S.out
      by_cases h5 : 6000 < o.text.length
      · have d4 : decide (100 < (o.keep.length : Int)) = false := by simp; omega
        have d5 : decide (6000 < (o.text.length : Int)) = true := by simp; omega
        have HY2 := Lib.hid (HY.out (by rw [HE.out]; simp [h5]))
        go_wp2_with (fail)
        go_ret
        exact RetV.bool HY2.out.symm S.out
      · have d4 : decide (100 < (o.keep.length : Int)) = false := by simp; omega
        have d5 : decide (6000 < (o.text.length : Int)) = false := by simp; omega
        have HN2 := Lib.hid (HN.out (by rw [HE.out]; simp [h4, h5]))
        go_wp2_with (fail)
        go_roundw
        case rel => exact ⟨k + 1, by omega, by go_num, HN2.out, S.out⟩
        case measure => simp [intOf]; omega
    · obtain rfl : k = l.length := by omega
      have d2 : decide ((l.length : Int) < (l.length : Int)) = false := by simp
      have HB := Lib.hid (show longAll l = false by
        unfold longAll
        rw [decide_eq_false h120, Bool.false_or]
        have := OK.out
        rw [List.take_length] at this
        rw [List.any_eq_false]
        intro x hx
        rw [this x hx]; simp)
      go_wp2_with (fail)
      go_ret
      exact RetV.bool HB.out.symm S.out
end Go.Proofs.YtiedkcijjfmhaaaDoor
