/-
  The walk of script.Check, a class of kinds. (Printed by gen47d.py.)
-/
import Derived.Test.YtiedkcijjfmhaaaDoorSy1
import Derived.Test.YtiedkcijjfmhaaaDoorSy7
import Derived.Test.YtiedkcijjfmhaaaDoorSy18
namespace Go.Proofs.YtiedkcijjfmhaaaDoor
open Go.RowKit

def FR (o : Deed) (a b : Bool) : Deed := { dz with kind := o.kind, dev := o.dev, f := if a = true then o.f else [], mask := if b = true then o.mask else 0 }
def Fz (q : Where) (a : Bool) : Where := ⟨if a = true then q.A else none, if a = true then q.n else 0, none, 0⟩
theorem FR_wf {o : Deed} (a b : Bool) : (FR o a b).wf := ⟨rfl, rfl⟩
def FM (w : World) (o : Deed) (q : Where) (g h : Nat) (k : Bool) (L : Nat → Bool) (_u : Nat → Value) (w1 : World) : Prop := SC w w1 o (FR o (L 5) (L 7)) q (Fz q (L 5)) g h k
section
variable {w w1 : World} {o : Deed} {q : Where} {g h : Nat} {k : Bool} {L : Nat → Bool} {u : Nat → Value} {v : Value} {j : Nat}
theorem FM.start (c : SC w w1 o { dz with kind := o.kind, dev := o.dev } q wz g h k) : FM w o q g h k (fun _ => false) u w1 := c
theorem FM.pure (c : FM w o q g h k L u w1) (h5 : j ≠ 5) (h7 : j ≠ 7) : FM w o q g h k (upd L j true) (upd u j v) w1 := by
  unfold FM
  rw [upd_other _ _ (Ne.symm h5), upd_other _ _ (Ne.symm h7)]
  exact c
theorem FM.blk (c : FM w o q g h k L u w1) : Blk w1 w.heap.size (o.arr q) := SC.o c
theorem FM.row (c : FM w o q g h k L u w1) : Blk w1 g ((FR o (L 5) (L 7)).arr (Fz q (L 5))) := SC.r c
theorem FM.set5 (c : FM w o q g h k L u w1) (hL : L 5 = false) : FM w o q g h k (upd L 5 true) (upd u 5 v) (w1.setCell ⟨g, 33, none⟩ (.slice q.A o.f.length q.n)) := by
  unfold FM
  rw [upd_same, upd_other _ _ (by decide)]
  have c' : SC w w1 o (FR o (L 5) (L 7)) q (Fz q (L 5)) g h k := c
  rw [hL] at c'
  exact c'.set 33 _ (Deed.setF (FR_wf _ _) q.A o.f q.n)
theorem FM.set7 (c : FM w o q g h k L u w1) (hL : L 7 = false) : FM w o q g h k (upd L 7 true) (upd u 7 v) (w1.setCell ⟨g, 34, none⟩ (.int .u32 o.mask)) := by
  unfold FM
  rw [upd_same, upd_other _ _ (by decide)]
  have c' : SC w w1 o (FR o (L 5) (L 7)) q (Fz q (L 5)) g h k := c
  rw [hL] at c'
  exact c'.set 34 _ (Deed.setM (FR_wf _ _) o.mask)
theorem FM.done (c : FM w o q g h k (fun j => decide (j < 8)) u w1) : SC w w1 o { dz with kind := o.kind, dev := o.dev, f := o.f, mask := o.mask } q ⟨q.A, q.n, none, 0⟩ g h k := c
end
theorem ok_F {o : Deed} (hk : o.kind = 3) : o.ok = ((decide (0 ≤ o.dev ∧ o.dev ≤ 5) && decide (check o.f = 0 ∧ o.mask < 512)) && decide (({ dz with kind := o.kind, dev := o.dev, f := o.f, mask := o.mask } : Deed) = o)) := by
  have e : (o.only = o) = (({ dz with kind := o.kind, dev := o.dev, f := o.f, mask := o.mask } : Deed) = o) := by
    unfold Deed.only
    (have k := hk); simp [dE, dN, dD, dF, dW, dK, dT, k]
  unfold Deed.ok Deed.may
  simp only [e]
  congr 1
  (have k := hk); simp [dE, dN, dD, dF, dW, dK, dT, k]
set_option maxHeartbeats 40000000 in
set_option maxRecDepth 10000 in
theorem script_Check_Fa1 (o : Deed) (q : Where) (w : World) (ho : o.fit) (hq : o.at_ w q) (hk : o.kind = 3) (h0 : 0 ≤ o.dev) (h1 : o.dev ≤ 5) (g0 : check o.f = 0) (g1 : o.mask < 512) : Calls Tryd.prog 8 #[.agg (o.arr q)] w (RetV w (.bool o.ok)) := by
  have k1 : 1 ≤ o.kind := by omega
  have k2 : o.kind ≤ 12 := by omega
  obtain ⟨FE, FN, FD, FF, FW, FK, FT⟩ : dE o.kind = false ∧ dN o.kind = false ∧ dD o.kind = true ∧ dF o.kind = true ∧ dW o.kind = false ∧ dK o.kind = false ∧ dT o.kind = false := by simp [dE, dN, dD, dF, dW, dK, dT]; omega
  have t1 : decide (0 ≤ o.dev) = true := by simp; omega
  have t1' : decide (o.dev < 0) = false := by simp; omega
  have t2 : decide (o.dev < 6) = true := by simp; omega
  have t2' : decide (6 ≤ o.dev) = false := by simp; omega
  have u1 : (check o.f == 0) = true := by simpa using g0
  have u2 : decide (o.mask ≤ 511) = true := by simp; omega
  have HK := lh (show o.ok = decide (({ dz with kind := o.kind, dev := o.dev, f := o.f, mask := o.mask } : Deed) = o) by rw [ok_F hk, decide_eq_true (show 0 ≤ o.dev ∧ o.dev ≤ 5 from ⟨h0, h1⟩), decide_eq_true (show check o.f = 0 ∧ o.mask < 512 from ⟨g0, g1⟩)]; first | rfl | simp)
  clear h0 g0 h1 g1
  have HF := lh ho
  have HQ := lh hq
  obtain ⟨R, hR⟩ : ∃ R : Deed, R = { dz with kind := o.kind } := ⟨_, rfl⟩
  have hRw : R.wf := by rw [hR]; exact ⟨rfl, rfl⟩
  have HR := lh hR
  refine ckHead rfl o q w _ ho hq k1 k2 ?_
  intro W1 g h u S0
  have S := lh (show SC w W1 o R q wz g h true by rw [hR]; exact S0)
  have hmf := ckMf
  clear S0 ho hq hk hR k1 k2
  have ps := dcs HF.out.wf S.out.o
  go_wp2_with (fail)
  clear ps
  refine hasS S HF ((hasD_E _).trans FE) fun _ S ps => ?_
  go_wp2_with (fail)
  clear ps
  refine hasS S HF ((hasD_N _).trans FN) fun _ S ps => ?_
  go_wp2_with (fail)
  clear ps
  refine hasS S HF ((hasD_D _).trans FD) fun _ S ps => ?_
  have s9 := S.out.r.cell (Deed.getI 2 (by omega))
  have sf := fun i => S.out.r.frozen i
  have slt := S.out.r.lt
  have S2 := lh (S.out.devS HR.out)
  have rs := dcs HF.out.wf S2.out.o
  go_wp2_with (fail)
  replace S := S2
  clear s9 sf slt S2 rs
  clear ps
  refine alsoS S HF fun _ S ps => ?_
  go_wp2_with (fail)
  clear ps
  refine hasS S HF ((hasD_F _).trans FF) fun _ S ps => ?_
  go_wp2_with (fail)
  refine wp_region_relM (VV [some (.pointer (some ⟨w.heap.size, 33, none⟩)), some (.slice q.A o.f.length q.n), some (.pointer (some ⟨w.heap.size, 34, none⟩)), some (.int .u32 o.mask), some (.pointer (some ⟨g, 33, none⟩)), none, some (.pointer (some ⟨g, 34, none⟩)), none]) (FM w o q g h true) 143 (by kernel_rfl) (by kernel_rfl) rfl ?_ ?_ ?_
  · intro u w' hb hh
    exact FM.start (S.out.step hb)
  · refine ⟨?_, ?_, ?_, ?_, ?_, ?_, ?_, ?_, trivial⟩
    all_goals
      rintro L u W1 hM hL hd
      have M := lh hM
      clear hM
      clear ps
      have ps := dcs HF.out.wf M.out.o
      simp [DepsM, Region.binds, VV] at hd
      simp only [putDeps, dstOf, Region.binds]
    case refine_1 | refine_2 | refine_3 | refine_4 | refine_5 | refine_7 =>
      go_wp2_with (fail)
      exact EndM.mk rfl ⟨rfl, M.out.pure (by decide) (by decide)⟩
    case refine_6 =>
      have s9 := M.out.row.cell (Deed.getF (FR_wf _ _) 0 (by omega))
      have sf := fun i => M.out.row.frozen i
      have slt := M.out.row.lt
      go_wp2_with (fail)
      exact EndM.mk0 rfl ⟨trivial, FM.set5 M.out hL⟩
    case refine_8 =>
      have s9 := M.out.row.cell (Deed.getF (FR_wf _ _) 1 (by omega))
      have sf := fun i => M.out.row.frozen i
      have slt := M.out.row.lt
      go_wp2_with (fail)
      exact EndM.mk0 rfl ⟨trivial, FM.set7 M.out hL⟩
  · rintro u W1 hv hM
    have S := lh (FM.done hM)
    clear hv hM ps
    simp only [putAll, Act.put, Nat.reduceAdd, List.setIfInBounds_toArray, List.set_cons_zero, List.set_cons_succ]
    have ps := dcs HF.out.wf S.out.o
    go_wp2_with (fail)
    clear ps
    refine stepS S HF (c_pred_Check o.f q.A q.n _ (HQ.out.below S.out.below).f (fun x hx => by have := HF.out.fs x hx; omega)) fun _ S ps => ?_
    go_wp2_with (fail)
    refine (c_mask_Check o.mask HF.out.m _).mono ?_
    rintro e w5 ⟨rfl, hb5⟩
    rw [u2]
    replace S := lh (S.out.step hb5)
    clear hb5 ps
    have ps := dcs HF.out.wf S.out.o
    go_wp2_with (fail)
    clear ps
    refine alsoS S HF fun _ S ps => ?_
    go_wp2_with (fail)
    clear ps
    refine hasS S HF ((hasD_W _).trans FW) fun _ S ps => ?_
    go_wp2_with (fail)
    clear ps
    refine hasS S HF ((hasD_K _).trans FK) fun _ S ps => ?_
    go_wp2_with (fail)
    clear ps
    refine hasS S HF ((hasD_T _).trans FT) fun _ S ps => ?_
    have ck := S.out.k.cell (show #[Value.bool true][0]? = some (.bool true) from rfl)
    go_wp2_with (with_reducible refine slG 38 (.tmp 3) rfl ?_)
    refine Stop.mk (wlG (by rfl) _ _ rfl g 0 rfl _ S.out.r.all strOp (Deed.arr_size ⟨rfl, rfl⟩) ?_)
    go_wp2_with (with_reducible refine slG 38 (.tmp 1) rfl ?_)
    refine Stop.mk (wlG (by rfl) _ _ rfl w.heap.size 0 rfl _ S.out.o.all strOp (Deed.arr_size HF.out.wf) ?_)
    go_wp2_with (fail)
    refine (c_script_Same { dz with kind := o.kind, dev := o.dev, f := o.f, mask := o.mask } o ⟨q.A, q.n, none, 0⟩ q _ ⟨rfl, rfl⟩ HF.out.wf ⟨(HQ.out.below S.out.below).f, In.nil (by simp)⟩ (HQ.out.below S.out.below)).mono ?_
    rintro e w3 ⟨rfl, hb3⟩
    go_wp2_with (fail)
    go_ret
    exact RetV.bool HK.out.symm (S.out.below.trans (hb3.mono S.out.below.size))
set_option maxHeartbeats 40000000 in
set_option maxRecDepth 10000 in
theorem script_Check_Fa2 (o : Deed) (q : Where) (w : World) (ho : o.fit) (hq : o.at_ w q) (hk : o.kind = 3) (h0 : 0 ≤ o.dev) (h1 : o.dev ≤ 5) (g0 : check o.f = 0) (g1 : ¬ o.mask < 512) : Calls Tryd.prog 8 #[.agg (o.arr q)] w (RetV w (.bool o.ok)) := by
  have k1 : 1 ≤ o.kind := by omega
  have k2 : o.kind ≤ 12 := by omega
  obtain ⟨FE, FN, FD, FF, FW, FK, FT⟩ : dE o.kind = false ∧ dN o.kind = false ∧ dD o.kind = true ∧ dF o.kind = true ∧ dW o.kind = false ∧ dK o.kind = false ∧ dT o.kind = false := by simp [dE, dN, dD, dF, dW, dK, dT]; omega
  have t1 : decide (0 ≤ o.dev) = true := by simp; omega
  have t1' : decide (o.dev < 0) = false := by simp; omega
  have t2 : decide (o.dev < 6) = true := by simp; omega
  have t2' : decide (6 ≤ o.dev) = false := by simp; omega
  have u1 : (check o.f == 0) = true := by simpa using g0
  have u2 : decide (o.mask ≤ 511) = false := by simp; omega
  have HK := lh (show o.ok = false by rw [ok_F hk, decide_eq_true (show 0 ≤ o.dev ∧ o.dev ≤ 5 from ⟨h0, h1⟩), decide_eq_false (show ¬ (check o.f = 0 ∧ o.mask < 512) from fun e => by exact g1 e.2)]; first | rfl | simp)
  clear h0 g0 h1 g1
  have HF := lh ho
  have HQ := lh hq
  obtain ⟨R, hR⟩ : ∃ R : Deed, R = { dz with kind := o.kind } := ⟨_, rfl⟩
  have hRw : R.wf := by rw [hR]; exact ⟨rfl, rfl⟩
  have HR := lh hR
  refine ckHead rfl o q w _ ho hq k1 k2 ?_
  intro W1 g h u S0
  have S := lh (show SC w W1 o R q wz g h true by rw [hR]; exact S0)
  have hmf := ckMf
  clear S0 ho hq hk hR k1 k2
  have ps := dcs HF.out.wf S.out.o
  go_wp2_with (fail)
  clear ps
  refine hasS S HF ((hasD_E _).trans FE) fun _ S ps => ?_
  go_wp2_with (fail)
  clear ps
  refine hasS S HF ((hasD_N _).trans FN) fun _ S ps => ?_
  go_wp2_with (fail)
  clear ps
  refine hasS S HF ((hasD_D _).trans FD) fun _ S ps => ?_
  have s9 := S.out.r.cell (Deed.getI 2 (by omega))
  have sf := fun i => S.out.r.frozen i
  have slt := S.out.r.lt
  have S2 := lh (S.out.devS HR.out)
  have rs := dcs HF.out.wf S2.out.o
  go_wp2_with (fail)
  replace S := S2
  clear s9 sf slt S2 rs
  clear ps
  refine alsoS S HF fun _ S ps => ?_
  go_wp2_with (fail)
  clear ps
  refine hasS S HF ((hasD_F _).trans FF) fun _ S ps => ?_
  go_wp2_with (fail)
  refine wp_region_relM (VV [some (.pointer (some ⟨w.heap.size, 33, none⟩)), some (.slice q.A o.f.length q.n), some (.pointer (some ⟨w.heap.size, 34, none⟩)), some (.int .u32 o.mask), some (.pointer (some ⟨g, 33, none⟩)), none, some (.pointer (some ⟨g, 34, none⟩)), none]) (FM w o q g h true) 143 (by kernel_rfl) (by kernel_rfl) rfl ?_ ?_ ?_
  · intro u w' hb hh
    exact FM.start (S.out.step hb)
  · refine ⟨?_, ?_, ?_, ?_, ?_, ?_, ?_, ?_, trivial⟩
    all_goals
      rintro L u W1 hM hL hd
      have M := lh hM
      clear hM
      clear ps
      have ps := dcs HF.out.wf M.out.o
      simp [DepsM, Region.binds, VV] at hd
      simp only [putDeps, dstOf, Region.binds]
    case refine_1 | refine_2 | refine_3 | refine_4 | refine_5 | refine_7 =>
      go_wp2_with (fail)
      exact EndM.mk rfl ⟨rfl, M.out.pure (by decide) (by decide)⟩
    case refine_6 =>
      have s9 := M.out.row.cell (Deed.getF (FR_wf _ _) 0 (by omega))
      have sf := fun i => M.out.row.frozen i
      have slt := M.out.row.lt
      go_wp2_with (fail)
      exact EndM.mk0 rfl ⟨trivial, FM.set5 M.out hL⟩
    case refine_8 =>
      have s9 := M.out.row.cell (Deed.getF (FR_wf _ _) 1 (by omega))
      have sf := fun i => M.out.row.frozen i
      have slt := M.out.row.lt
      go_wp2_with (fail)
      exact EndM.mk0 rfl ⟨trivial, FM.set7 M.out hL⟩
  · rintro u W1 hv hM
    have S := lh (FM.done hM)
    clear hv hM ps
    simp only [putAll, Act.put, Nat.reduceAdd, List.setIfInBounds_toArray, List.set_cons_zero, List.set_cons_succ]
    have ps := dcs HF.out.wf S.out.o
    go_wp2_with (fail)
    clear ps
    refine stepS S HF (c_pred_Check o.f q.A q.n _ (HQ.out.below S.out.below).f (fun x hx => by have := HF.out.fs x hx; omega)) fun _ S ps => ?_
    go_wp2_with (fail)
    refine (c_mask_Check o.mask HF.out.m _).mono ?_
    rintro e w5 ⟨rfl, hb5⟩
    rw [u2]
    replace S := lh (S.out.step hb5)
    clear hb5 ps
    have ps := dcs HF.out.wf S.out.o
    go_wp2_with (fail)
    clear ps
    refine alsoS S HF fun _ S ps => ?_
    go_wp2_with (fail)
    clear ps
    refine hasS S HF ((hasD_W _).trans FW) fun _ S ps => ?_
    go_wp2_with (fail)
    clear ps
    refine hasS S HF ((hasD_K _).trans FK) fun _ S ps => ?_
    go_wp2_with (fail)
    clear ps
    refine hasS S HF ((hasD_T _).trans FT) fun _ S ps => ?_
    have ck := S.out.k.cell (show #[Value.bool false][0]? = some (.bool false) from rfl)
    go_wp2_with (fail)
    go_ret
    exact RetV.bool HK.out.symm S.out.below
set_option maxHeartbeats 40000000 in
set_option maxRecDepth 10000 in
theorem script_Check_Fa3 (o : Deed) (q : Where) (w : World) (ho : o.fit) (hq : o.at_ w q) (hk : o.kind = 3) (h0 : 0 ≤ o.dev) (h1 : o.dev ≤ 5) (g0 : ¬ check o.f = 0) : Calls Tryd.prog 8 #[.agg (o.arr q)] w (RetV w (.bool o.ok)) := by
  have k1 : 1 ≤ o.kind := by omega
  have k2 : o.kind ≤ 12 := by omega
  obtain ⟨FE, FN, FD, FF, FW, FK, FT⟩ : dE o.kind = false ∧ dN o.kind = false ∧ dD o.kind = true ∧ dF o.kind = true ∧ dW o.kind = false ∧ dK o.kind = false ∧ dT o.kind = false := by simp [dE, dN, dD, dF, dW, dK, dT]; omega
  have t1 : decide (0 ≤ o.dev) = true := by simp; omega
  have t1' : decide (o.dev < 0) = false := by simp; omega
  have t2 : decide (o.dev < 6) = true := by simp; omega
  have t2' : decide (6 ≤ o.dev) = false := by simp; omega
  have u1 : (check o.f == 0) = false := by simpa using g0
  have HK := lh (show o.ok = false by rw [ok_F hk, decide_eq_true (show 0 ≤ o.dev ∧ o.dev ≤ 5 from ⟨h0, h1⟩), decide_eq_false (show ¬ (check o.f = 0 ∧ o.mask < 512) from fun e => by exact g0 e.1)]; first | rfl | simp)
  clear h0 g0 h1
  have HF := lh ho
  have HQ := lh hq
  obtain ⟨R, hR⟩ : ∃ R : Deed, R = { dz with kind := o.kind } := ⟨_, rfl⟩
  have hRw : R.wf := by rw [hR]; exact ⟨rfl, rfl⟩
  have HR := lh hR
  refine ckHead rfl o q w _ ho hq k1 k2 ?_
  intro W1 g h u S0
  have S := lh (show SC w W1 o R q wz g h true by rw [hR]; exact S0)
  have hmf := ckMf
  clear S0 ho hq hk hR k1 k2
  have ps := dcs HF.out.wf S.out.o
  go_wp2_with (fail)
  clear ps
  refine hasS S HF ((hasD_E _).trans FE) fun _ S ps => ?_
  go_wp2_with (fail)
  clear ps
  refine hasS S HF ((hasD_N _).trans FN) fun _ S ps => ?_
  go_wp2_with (fail)
  clear ps
  refine hasS S HF ((hasD_D _).trans FD) fun _ S ps => ?_
  have s9 := S.out.r.cell (Deed.getI 2 (by omega))
  have sf := fun i => S.out.r.frozen i
  have slt := S.out.r.lt
  have S2 := lh (S.out.devS HR.out)
  have rs := dcs HF.out.wf S2.out.o
  go_wp2_with (fail)
  replace S := S2
  clear s9 sf slt S2 rs
  clear ps
  refine alsoS S HF fun _ S ps => ?_
  go_wp2_with (fail)
  clear ps
  refine hasS S HF ((hasD_F _).trans FF) fun _ S ps => ?_
  go_wp2_with (fail)
  refine wp_region_relM (VV [some (.pointer (some ⟨w.heap.size, 33, none⟩)), some (.slice q.A o.f.length q.n), some (.pointer (some ⟨w.heap.size, 34, none⟩)), some (.int .u32 o.mask), some (.pointer (some ⟨g, 33, none⟩)), none, some (.pointer (some ⟨g, 34, none⟩)), none]) (FM w o q g h true) 143 (by kernel_rfl) (by kernel_rfl) rfl ?_ ?_ ?_
  · intro u w' hb hh
    exact FM.start (S.out.step hb)
  · refine ⟨?_, ?_, ?_, ?_, ?_, ?_, ?_, ?_, trivial⟩
    all_goals
      rintro L u W1 hM hL hd
      have M := lh hM
      clear hM
      clear ps
      have ps := dcs HF.out.wf M.out.o
      simp [DepsM, Region.binds, VV] at hd
      simp only [putDeps, dstOf, Region.binds]
    case refine_1 | refine_2 | refine_3 | refine_4 | refine_5 | refine_7 =>
      go_wp2_with (fail)
      exact EndM.mk rfl ⟨rfl, M.out.pure (by decide) (by decide)⟩
    case refine_6 =>
      have s9 := M.out.row.cell (Deed.getF (FR_wf _ _) 0 (by omega))
      have sf := fun i => M.out.row.frozen i
      have slt := M.out.row.lt
      go_wp2_with (fail)
      exact EndM.mk0 rfl ⟨trivial, FM.set5 M.out hL⟩
    case refine_8 =>
      have s9 := M.out.row.cell (Deed.getF (FR_wf _ _) 1 (by omega))
      have sf := fun i => M.out.row.frozen i
      have slt := M.out.row.lt
      go_wp2_with (fail)
      exact EndM.mk0 rfl ⟨trivial, FM.set7 M.out hL⟩
  · rintro u W1 hv hM
    have S := lh (FM.done hM)
    clear hv hM ps
    simp only [putAll, Act.put, Nat.reduceAdd, List.setIfInBounds_toArray, List.set_cons_zero, List.set_cons_succ]
    have ps := dcs HF.out.wf S.out.o
    go_wp2_with (fail)
    clear ps
    refine stepS S HF (c_pred_Check o.f q.A q.n _ (HQ.out.below S.out.below).f (fun x hx => by have := HF.out.fs x hx; omega)) fun _ S ps => ?_
    go_wp2_with (fail)
    clear ps
    refine alsoS S HF fun _ S ps => ?_
    go_wp2_with (fail)
    clear ps
    refine hasS S HF ((hasD_W _).trans FW) fun _ S ps => ?_
    go_wp2_with (fail)
    clear ps
    refine hasS S HF ((hasD_K _).trans FK) fun _ S ps => ?_
    go_wp2_with (fail)
    clear ps
    refine hasS S HF ((hasD_T _).trans FT) fun _ S ps => ?_
    have ck := S.out.k.cell (show #[Value.bool false][0]? = some (.bool false) from rfl)
    go_wp2_with (fail)
    go_ret
    exact RetV.bool HK.out.symm S.out.below
end Go.Proofs.YtiedkcijjfmhaaaDoor
