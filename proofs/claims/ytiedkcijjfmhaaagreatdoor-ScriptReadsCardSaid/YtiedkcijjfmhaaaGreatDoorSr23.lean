/-
  Lemmas (walks and plain laws), in one text.
-/
import Derived.Test.YtiedkcijjfmhaaaGreatDoorSr1
import Derived.Test.YtiedkcijjfmhaaaGreatDoorSr8
import Derived.Test.YtiedkcijjfmhaaaGreatDoorSr9
import Derived.Test.YtiedkcijjfmhaaaGreatDoorSr22
import Derived.Laws.IdiomStrings
namespace Go.Proofs.YtiedkcijjfmhaaaGreatDoor
open Go.RowKit

set_option maxHeartbeats 40000000 in
set_option maxRecDepth 10000 in
theorem script_read_W1 (p : Option Nat) (st : Rd) (w : World) (hT : Tab w) (hr : RdP w p st) (hk0 : ddK st = 5) (hi0 : ¬ rdN (ddB st) 1073741823 = 0) (hc0 : (rdPatch (ddW st)).code = 0) : Calls Tryz.prog 11 #[ptr p] w (RetPD p (rdDeed' st) w (rdDeed st)) := by
  obtain ⟨x1, x2⟩ := dd_5 hk0
  obtain ⟨K, hK⟩ : ∃ K, K = ddK st := ⟨_, rfl⟩
  obtain ⟨D, hD⟩ : ∃ D, D = rdN (ddA st) 5 := ⟨_, rfl⟩
  have HD := Lib.hid hD
  obtain ⟨I, hI⟩ : ∃ D, D = rdN (ddB st) 1073741823 := ⟨_, rfl⟩
  have HI := Lib.hid hI
  obtain ⟨F, hF⟩ : ∃ D, D = rdPatch (ddW st) := ⟨_, rfl⟩
  have HF := Lib.hid hF
  rw [← hK] at hk0
  have FE : dE K = false := by unfold dE; simp; omega
  have FN : dN K = false := by unfold dN; simp; omega
  have FD : dD K = true := by unfold dD; simp; omega
  have FF : dF K = false := by unfold dF; simp; omega
  have FW : dW K = true := by unfold dW; simp; omega
  have FK : dK K = false := by unfold dK; simp; omega
  have FT : dT K = false := by unfold dT; simp; omega
  have j0 : (K == 0) = false := by simp; omega
  have X1 := Lib.hid x1
  have X2 := Lib.hid (show rdDeed st = { dz with kind := K, dev := D, id := I, p := F } by rw [x2, hk0, hD, hI, hF])
  have HK := Lib.hid (show rdN st 12 = K from hK.symm)
  have HA := Lib.hid (show rdN' st 12 = ddA st from (rdAb'_pos (by rw [show rdN st 12 = ddK st from rfl, ← hK]; omega)).symm)
  have hpT := Lib.hid (hr.tab hT)
  have HT := Lib.hid hT
  have HRD := Lib.hid hr
  have jI : (I == 0) = false := by rw [hI]; simpa using hi0
  have HI2 := Lib.hid (show rdN' (ddB st) 1073741823 = ddW st from (rdAb'_pos hi0).symm)
  have jC : (F.code != 0) = false := by rw [hF]; simpa using hc0
  have HL := Lib.hid (show F.f.length = 8 by rw [hF]; exact rdPatch_len _)
  have HM := Lib.hid (show F.mask < 4294967296 by rw [hF]; have := (rdPatch_mask (ddW st)).1; omega)
  have HSZ := Lib.hid (show ∀ x ∈ F.f, x.s.length ≤ 4294967000 by rw [hF]; exact rdPatch_sizes _)
  clear hi0 hc0
  clear x1 hk0 hr hT hK x2 hD hI hF
  go_enter Tryz.func11, Tryz.ntmps11
  go_wp2_with (with_reducible refine stop_callS _ rfl ?_)
  refine Stop.mk (EnvP.go HRD.out ?_)
  intro w00 he00 hz00
  have E := Lib.hid he00
  clear he00
  go_wp2_with (fail)
  refine (c_octet_RNum p st 12 _ E.out.rd).mono ?_
  rintro e w6 ⟨rfl, hr6, hk6⟩
  rw [HK.out]
  have hz6 := hk6.size
  replace E := Lib.hid (E.out.call hr6 hk6)
  clear hr6 hk6
  go_wp2_with (with_reducible refine stop_build 45 _ rfl ?_)
  refine Stop.mk (wpList_buildD rfl _ _ rfl [(0, .int .i64 K)] (by rfl) (Deed.arr { dz with kind := K } wz) (built_kind K) ?_)
  go_wp2_with (with_reducible refine stS 45 (.tmp 3) (.tmp 6) rfl rfl ?_)
  refine Stop.mk (wsB rfl _ _ _ rfl w6.heap.size _ (by first | rfl | simp) rfl _ (Blk.new _ _ _) strOp (Deed.arr_size ⟨rfl, rfl⟩) (by rw [Deed.arr_size ⟨rfl, rfl⟩]; rfl) (Deed.arr_ones ⟨rfl, rfl⟩) ?_)
  intro w7 hb7 hk7
  replace E := Lib.hid ((E.out.alloc 45 _).put0 hb7 hk7)
  obtain ⟨G, hG⟩ : ∃ g, g = w6.heap.size := ⟨_, rfl⟩
  have HG := Lib.hid (show w.heap.size < G by omega)
  rw [← hG] at E ⊢
  clear hb7 hk7 hG hz6 hz00
  have hw := Lib.hid (show Deed.wf { dz with kind := K } from ⟨rfl, rfl⟩)
  obtain ⟨p0, p1, p2, p3, p4, p5, p6, p7⟩ := dcs hw.out E.out.b0
  have ff := fun i => E.out.b0.frozen i
  have hlt := E.out.b0.lt
  go_wp2_with (fail)
  clear p0 p1 p2 p3 p4 p5 p6 p7 ff hlt
  replace E := Lib.hid (E.out.state HA.out)
  refine (csh K 1 _).mono ?_
  rintro e w9 ⟨rfl, hb9⟩
  rw [hasD_E K, FE]
  replace E := Lib.hid (E.out.below hb9)
  clear hb9
  obtain ⟨p0, p1, p2, p3, p4, p5, p6, p7⟩ := dcs hw.out E.out.b0
  have ff := fun i => E.out.b0.frozen i
  have hlt := E.out.b0.lt
  go_wp2_with (fail)
  clear p0 p1 p2 p3 p4 p5 p6 p7 ff hlt
  refine (csh K 2 _).mono ?_
  rintro e w9 ⟨rfl, hb9⟩
  rw [hasD_N K, FN]
  replace E := Lib.hid (E.out.below hb9)
  clear hb9
  obtain ⟨p0, p1, p2, p3, p4, p5, p6, p7⟩ := dcs hw.out E.out.b0
  have ff := fun i => E.out.b0.frozen i
  have hlt := E.out.b0.lt
  go_wp2_with (fail)
  clear p0 p1 p2 p3 p4 p5 p6 p7 ff hlt
  refine (csh K 4 _).mono ?_
  rintro e w9 ⟨rfl, hb9⟩
  rw [hasD_D K, FD]
  replace E := Lib.hid (E.out.below hb9)
  clear hb9
  go_wp2_with (fail)
  refine (c_octet_RNum p _ 5 _ E.out.rd).mono ?_
  rintro e w9 ⟨rfl, hr9, hk9⟩
  rw [← HD.out]
  replace E := Lib.hid ((E.out.call hr9 hk9).state (show _ = ddB st from rfl))
  clear hr9 hk9
  obtain ⟨p0, p1, p2, p3, p4, p5, p6, p7⟩ := dcs hw.out E.out.b0
  have ff := fun i => E.out.b0.frozen i
  have hlt := E.out.b0.lt
  go_wp2_with (fail)
  clear p0 p1 p2 p3 p4 p5 p6 p7 ff hlt
  replace E := Lib.hid ((E.out.store0 2 (.int .i64 D)).as (show _ = Deed.arr { dz with kind := K, dev := D } wz from by have := Deed.setI hw.out (q := wz) 2 (by omega) D; simpa using this))
  replace hw := Lib.hid (show Deed.wf { dz with kind := K, dev := D } from ⟨hw.out.e, hw.out.p⟩)
  refine (csh K 8 _).mono ?_
  rintro e w9 ⟨rfl, hb9⟩
  rw [hasD_F K, FF]
  replace E := Lib.hid (E.out.below hb9)
  clear hb9
  obtain ⟨p0, p1, p2, p3, p4, p5, p6, p7⟩ := dcs hw.out E.out.b0
  have ff := fun i => E.out.b0.frozen i
  have hlt := E.out.b0.lt
  go_wp2_with (fail)
  clear p0 p1 p2 p3 p4 p5 p6 p7 ff hlt
  refine (csh K 16 _).mono ?_
  rintro e w9 ⟨rfl, hb9⟩
  rw [hasD_W K, FW]
  replace E := Lib.hid (E.out.below hb9)
  clear hb9
  go_wp2_with (fail)
  refine (c_octet_RNum p _ 1073741823 _ E.out.rd).mono ?_
  rintro e w9 ⟨rfl, hr9, hk9⟩
  rw [← HI.out]
  replace E := Lib.hid ((E.out.call hr9 hk9).state (show _ = rdN' (ddB st) 1073741823 from rfl))
  clear hr9 hk9
  obtain ⟨p0, p1, p2, p3, p4, p5, p6, p7⟩ := dcs hw.out E.out.b0
  have ff := fun i => E.out.b0.frozen i
  have hlt := E.out.b0.lt
  go_wp2_with (fail)
  clear p0 p1 p2 p3 p4 p5 p6 p7 ff hlt
  replace E := Lib.hid ((E.out.store0 3 (.int .i64 I)).as (show _ = Deed.arr { dz with kind := K, dev := D, id := I } wz from by have := Deed.setI hw.out (q := wz) 3 (by omega) I; simpa using this))
  replace hw := Lib.hid (show Deed.wf { dz with kind := K, dev := D, id := I } from ⟨hw.out.e, hw.out.p⟩)
  replace E := Lib.hid (E.out.state HI2.out)
  have HTw := Lib.hid (HT.out.kept E.out.kept hpT.out)
  refine (c_cardwire_Patch p _ _ HTw.out E.out.rd).mono ?_
  rintro e w9 ⟨rfl, hr9, hk9⟩
  rw [← HF.out]
  replace E := Lib.hid ((E.out.call hr9 hk9).state (show _ = rdPatch' (ddW st) from rfl))
  clear hr9 hk9
  go_wp2_with (with_reducible refine stS 39 (.tmp 53) (.tmp 52) rfl rfl ?_)
  refine Stop.mk (wpList_storeAt rfl _ _ _ rfl G 35 F.arr rfl rfl _ E.out.b0 strP (by rw [Patch.arr_size, HL.out]) (by rw [Patch.arr_size, HL.out, Deed.arr_size hw.out]; decide) (Patch.arr_one _) ?_)
  intro w20 hb20 hk20
  replace E := Lib.hid (E.out.put0 (show Blk w20 G (Deed.arr { dz with kind := K, dev := D, id := I, p := F } wz) by rw [← Deed.putP hw.out F HL.out]; exact hb20) hk20)
  replace hw := Lib.hid (show Deed.wf { dz with kind := K, dev := D, id := I, p := F } from ⟨hw.out.e, HL.out⟩)
  clear hb20 hk20
  clear HTw
  go_wp2_with (with_reducible refine slG 39 (.tmp 54) rfl ?_)
  refine Stop.mk (wlG (by rfl) _ _ rfl G 35 rfl F.arr (deed_patch hw.out E.out.b0) strP (by rw [Patch.arr_size, HL.out]) ?_)
  go_wp2_with (fail)
  refine (c_card_CheckPatch F _ HM.out HL.out HSZ.out).mono ?_
  rintro e w6 ⟨rfl, hb6⟩
  replace E := Lib.hid (E.out.below hb6)
  clear hb6
  obtain ⟨p0, p1, p2, p3, p4, p5, p6, p7⟩ := dcs hw.out E.out.b0
  have ff := fun i => E.out.b0.frozen i
  have hlt := E.out.b0.lt
  go_wp2_with (fail)
  clear p0 p1 p2 p3 p4 p5 p6 p7 ff hlt
  refine (csh K 32 _).mono ?_
  rintro e w9 ⟨rfl, hb9⟩
  rw [hasD_K K, FK]
  replace E := Lib.hid (E.out.below hb9)
  clear hb9
  obtain ⟨p0, p1, p2, p3, p4, p5, p6, p7⟩ := dcs hw.out E.out.b0
  have ff := fun i => E.out.b0.frozen i
  have hlt := E.out.b0.lt
  go_wp2_with (fail)
  clear p0 p1 p2 p3 p4 p5 p6 p7 ff hlt
  refine (csh K 64 _).mono ?_
  rintro e w9 ⟨rfl, hb9⟩
  rw [hasD_T K, FT]
  replace E := Lib.hid (E.out.below hb9)
  clear hb9
  obtain ⟨p0, p1, p2, p3, p4, p5, p6, p7⟩ := dcs hw.out E.out.b0
  have ff := fun i => E.out.b0.frozen i
  have hlt := E.out.b0.lt
  go_wp2_with (with_reducible refine stop_load 45 (.tmp 3) rfl rfl ?_)
  clear p0 p1 p2 p3 p4 p5 p6 p7 ff hlt
  refine Stop.mk (wpList_loadB rfl _ _ rfl G rfl _ E.out.b0 strOp (Deed.arr_size hw.out) ?_)
  go_wp2_with (with_reducible refine stS 45 (.tmp 2) (.tmp 81) rfl rfl ?_)
  refine Stop.mk (wsB rfl _ _ _ rfl w.heap.size _ rfl rfl _ E.out.b1 strOp (Deed.arr_size hw.out) (by rw [Deed.arr_size hw.out]; rfl) (Deed.arr_ones hw.out) ?_)
  intro w99 hb99 hk99
  replace E := Lib.hid ((E.out.put1 hb99 hk99).state (show _ = rdDeed' st by rw [X1.out]))
  clear hk99
  go_wp2_with (fail)
  rw [X2.out]
  exact bodyPost_ret (results_B rfl rfl hb99 strOp (Deed.arr_size hw.out)) rfl ⟨wz, rfl, World.ownsRow_nil _ _ _ _, World.ownsRow_nil _ _ _ _, E.out.rd, E.out.kept⟩
set_option maxHeartbeats 40000000 in
set_option maxRecDepth 10000 in
theorem script_read_W2 (p : Option Nat) (st : Rd) (w : World) (hT : Tab w) (hr : RdP w p st) (hk0 : ddK st = 5) (hi0 : ¬ rdN (ddB st) 1073741823 = 0) (hc0 : ¬ (rdPatch (ddW st)).code = 0) : Calls Tryz.prog 11 #[ptr p] w (RetPD p (rdDeed' st) w (rdDeed st)) := by
  obtain ⟨x1, x2⟩ := dd_5 hk0
  obtain ⟨K, hK⟩ : ∃ K, K = ddK st := ⟨_, rfl⟩
  obtain ⟨D, hD⟩ : ∃ D, D = rdN (ddA st) 5 := ⟨_, rfl⟩
  have HD := Lib.hid hD
  obtain ⟨I, hI⟩ : ∃ D, D = rdN (ddB st) 1073741823 := ⟨_, rfl⟩
  have HI := Lib.hid hI
  obtain ⟨F, hF⟩ : ∃ D, D = rdPatch (ddW st) := ⟨_, rfl⟩
  have HF := Lib.hid hF
  rw [← hK] at hk0
  have FE : dE K = false := by unfold dE; simp; omega
  have FN : dN K = false := by unfold dN; simp; omega
  have FD : dD K = true := by unfold dD; simp; omega
  have FF : dF K = false := by unfold dF; simp; omega
  have FW : dW K = true := by unfold dW; simp; omega
  have FK : dK K = false := by unfold dK; simp; omega
  have FT : dT K = false := by unfold dT; simp; omega
  have j0 : (K == 0) = false := by simp; omega
  have X1 := Lib.hid x1
  have X2 := Lib.hid (show rdDeed st = { dz with kind := K, dev := D, id := I, p := F } by rw [x2, hk0, hD, hI, hF])
  have HK := Lib.hid (show rdN st 12 = K from hK.symm)
  have HA := Lib.hid (show rdN' st 12 = ddA st from (rdAb'_pos (by rw [show rdN st 12 = ddK st from rfl, ← hK]; omega)).symm)
  have hpT := Lib.hid (hr.tab hT)
  have HT := Lib.hid hT
  have HRD := Lib.hid hr
  have jI : (I == 0) = false := by rw [hI]; simpa using hi0
  have HI2 := Lib.hid (show rdN' (ddB st) 1073741823 = ddW st from (rdAb'_pos hi0).symm)
  have jC : (F.code != 0) = true := by rw [hF]; simpa using hc0
  have HL := Lib.hid (show F.f.length = 8 by rw [hF]; exact rdPatch_len _)
  have HM := Lib.hid (show F.mask < 4294967296 by rw [hF]; have := (rdPatch_mask (ddW st)).1; omega)
  have HSZ := Lib.hid (show ∀ x ∈ F.f, x.s.length ≤ 4294967000 by rw [hF]; exact rdPatch_sizes _)
  have HE := Lib.hid (show (rdPatch' (ddW st)).e ≠ 0 from fun h0 => hc0 (rdPatch_took h0).2.1)
  clear hi0 hc0
  clear x1 hk0 hr hT hK x2 hD hI hF
  go_enter Tryz.func11, Tryz.ntmps11
  go_wp2_with (with_reducible refine stop_callS _ rfl ?_)
  refine Stop.mk (EnvP.go HRD.out ?_)
  intro w00 he00 hz00
  have E := Lib.hid he00
  clear he00
  go_wp2_with (fail)
  refine (c_octet_RNum p st 12 _ E.out.rd).mono ?_
  rintro e w6 ⟨rfl, hr6, hk6⟩
  rw [HK.out]
  have hz6 := hk6.size
  replace E := Lib.hid (E.out.call hr6 hk6)
  clear hr6 hk6
  go_wp2_with (with_reducible refine stop_build 45 _ rfl ?_)
  refine Stop.mk (wpList_buildD rfl _ _ rfl [(0, .int .i64 K)] (by rfl) (Deed.arr { dz with kind := K } wz) (built_kind K) ?_)
  go_wp2_with (with_reducible refine stS 45 (.tmp 3) (.tmp 6) rfl rfl ?_)
  refine Stop.mk (wsB rfl _ _ _ rfl w6.heap.size _ (by first | rfl | simp) rfl _ (Blk.new _ _ _) strOp (Deed.arr_size ⟨rfl, rfl⟩) (by rw [Deed.arr_size ⟨rfl, rfl⟩]; rfl) (Deed.arr_ones ⟨rfl, rfl⟩) ?_)
  intro w7 hb7 hk7
  replace E := Lib.hid ((E.out.alloc 45 _).put0 hb7 hk7)
  obtain ⟨G, hG⟩ : ∃ g, g = w6.heap.size := ⟨_, rfl⟩
  have HG := Lib.hid (show w.heap.size < G by omega)
  rw [← hG] at E ⊢
  clear hb7 hk7 hG hz6 hz00
  have hw := Lib.hid (show Deed.wf { dz with kind := K } from ⟨rfl, rfl⟩)
  obtain ⟨p0, p1, p2, p3, p4, p5, p6, p7⟩ := dcs hw.out E.out.b0
  have ff := fun i => E.out.b0.frozen i
  have hlt := E.out.b0.lt
  go_wp2_with (fail)
  clear p0 p1 p2 p3 p4 p5 p6 p7 ff hlt
  replace E := Lib.hid (E.out.state HA.out)
  refine (csh K 1 _).mono ?_
  rintro e w9 ⟨rfl, hb9⟩
  rw [hasD_E K, FE]
  replace E := Lib.hid (E.out.below hb9)
  clear hb9
  obtain ⟨p0, p1, p2, p3, p4, p5, p6, p7⟩ := dcs hw.out E.out.b0
  have ff := fun i => E.out.b0.frozen i
  have hlt := E.out.b0.lt
  go_wp2_with (fail)
  clear p0 p1 p2 p3 p4 p5 p6 p7 ff hlt
  refine (csh K 2 _).mono ?_
  rintro e w9 ⟨rfl, hb9⟩
  rw [hasD_N K, FN]
  replace E := Lib.hid (E.out.below hb9)
  clear hb9
  obtain ⟨p0, p1, p2, p3, p4, p5, p6, p7⟩ := dcs hw.out E.out.b0
  have ff := fun i => E.out.b0.frozen i
  have hlt := E.out.b0.lt
  go_wp2_with (fail)
  clear p0 p1 p2 p3 p4 p5 p6 p7 ff hlt
  refine (csh K 4 _).mono ?_
  rintro e w9 ⟨rfl, hb9⟩
  rw [hasD_D K, FD]
  replace E := Lib.hid (E.out.below hb9)
  clear hb9
  go_wp2_with (fail)
  refine (c_octet_RNum p _ 5 _ E.out.rd).mono ?_
  rintro e w9 ⟨rfl, hr9, hk9⟩
  rw [← HD.out]
  replace E := Lib.hid ((E.out.call hr9 hk9).state (show _ = ddB st from rfl))
  clear hr9 hk9
  obtain ⟨p0, p1, p2, p3, p4, p5, p6, p7⟩ := dcs hw.out E.out.b0
  have ff := fun i => E.out.b0.frozen i
  have hlt := E.out.b0.lt
  go_wp2_with (fail)
  clear p0 p1 p2 p3 p4 p5 p6 p7 ff hlt
  replace E := Lib.hid ((E.out.store0 2 (.int .i64 D)).as (show _ = Deed.arr { dz with kind := K, dev := D } wz from by have := Deed.setI hw.out (q := wz) 2 (by omega) D; simpa using this))
  replace hw := Lib.hid (show Deed.wf { dz with kind := K, dev := D } from ⟨hw.out.e, hw.out.p⟩)
  refine (csh K 8 _).mono ?_
  rintro e w9 ⟨rfl, hb9⟩
  rw [hasD_F K, FF]
  replace E := Lib.hid (E.out.below hb9)
  clear hb9
  obtain ⟨p0, p1, p2, p3, p4, p5, p6, p7⟩ := dcs hw.out E.out.b0
  have ff := fun i => E.out.b0.frozen i
  have hlt := E.out.b0.lt
  go_wp2_with (fail)
  clear p0 p1 p2 p3 p4 p5 p6 p7 ff hlt
  refine (csh K 16 _).mono ?_
  rintro e w9 ⟨rfl, hb9⟩
  rw [hasD_W K, FW]
  replace E := Lib.hid (E.out.below hb9)
  clear hb9
  go_wp2_with (fail)
  refine (c_octet_RNum p _ 1073741823 _ E.out.rd).mono ?_
  rintro e w9 ⟨rfl, hr9, hk9⟩
  rw [← HI.out]
  replace E := Lib.hid ((E.out.call hr9 hk9).state (show _ = rdN' (ddB st) 1073741823 from rfl))
  clear hr9 hk9
  obtain ⟨p0, p1, p2, p3, p4, p5, p6, p7⟩ := dcs hw.out E.out.b0
  have ff := fun i => E.out.b0.frozen i
  have hlt := E.out.b0.lt
  go_wp2_with (fail)
  clear p0 p1 p2 p3 p4 p5 p6 p7 ff hlt
  replace E := Lib.hid ((E.out.store0 3 (.int .i64 I)).as (show _ = Deed.arr { dz with kind := K, dev := D, id := I } wz from by have := Deed.setI hw.out (q := wz) 3 (by omega) I; simpa using this))
  replace hw := Lib.hid (show Deed.wf { dz with kind := K, dev := D, id := I } from ⟨hw.out.e, hw.out.p⟩)
  replace E := Lib.hid (E.out.state HI2.out)
  have HTw := Lib.hid (HT.out.kept E.out.kept hpT.out)
  refine (c_cardwire_Patch p _ _ HTw.out E.out.rd).mono ?_
  rintro e w9 ⟨rfl, hr9, hk9⟩
  rw [← HF.out]
  replace E := Lib.hid ((E.out.call hr9 hk9).state (show _ = rdPatch' (ddW st) from rfl))
  clear hr9 hk9
  go_wp2_with (with_reducible refine stS 39 (.tmp 53) (.tmp 52) rfl rfl ?_)
  refine Stop.mk (wpList_storeAt rfl _ _ _ rfl G 35 F.arr rfl rfl _ E.out.b0 strP (by rw [Patch.arr_size, HL.out]) (by rw [Patch.arr_size, HL.out, Deed.arr_size hw.out]; decide) (Patch.arr_one _) ?_)
  intro w20 hb20 hk20
  replace E := Lib.hid (E.out.put0 (show Blk w20 G (Deed.arr { dz with kind := K, dev := D, id := I, p := F } wz) by rw [← Deed.putP hw.out F HL.out]; exact hb20) hk20)
  replace hw := Lib.hid (show Deed.wf { dz with kind := K, dev := D, id := I, p := F } from ⟨hw.out.e, HL.out⟩)
  clear hb20 hk20
  clear HTw
  go_wp2_with (with_reducible refine slG 39 (.tmp 54) rfl ?_)
  refine Stop.mk (wlG (by rfl) _ _ rfl G 35 rfl F.arr (deed_patch hw.out E.out.b0) strP (by rw [Patch.arr_size, HL.out]) ?_)
  go_wp2_with (fail)
  refine (c_card_CheckPatch F _ HM.out HL.out HSZ.out).mono ?_
  rintro e w6 ⟨rfl, hb6⟩
  replace E := Lib.hid (E.out.below hb6)
  clear hb6
  go_wp2_with (fail)
  refine (c_octet_Fail p _ 3 _ E.out.rd).mono ?_
  rintro e w9 ⟨rfl, hr9, hk9⟩
  replace E := Lib.hid ((E.out.call hr9 hk9).state (show _ = rdPatch' (ddW st) from rdF_err HE.out))
  clear hr9 hk9
  obtain ⟨p0, p1, p2, p3, p4, p5, p6, p7⟩ := dcs hw.out E.out.b0
  have ff := fun i => E.out.b0.frozen i
  have hlt := E.out.b0.lt
  go_wp2_with (fail)
  clear p0 p1 p2 p3 p4 p5 p6 p7 ff hlt
  refine (csh K 32 _).mono ?_
  rintro e w9 ⟨rfl, hb9⟩
  rw [hasD_K K, FK]
  replace E := Lib.hid (E.out.below hb9)
  clear hb9
  obtain ⟨p0, p1, p2, p3, p4, p5, p6, p7⟩ := dcs hw.out E.out.b0
  have ff := fun i => E.out.b0.frozen i
  have hlt := E.out.b0.lt
  go_wp2_with (fail)
  clear p0 p1 p2 p3 p4 p5 p6 p7 ff hlt
  refine (csh K 64 _).mono ?_
  rintro e w9 ⟨rfl, hb9⟩
  rw [hasD_T K, FT]
  replace E := Lib.hid (E.out.below hb9)
  clear hb9
  obtain ⟨p0, p1, p2, p3, p4, p5, p6, p7⟩ := dcs hw.out E.out.b0
  have ff := fun i => E.out.b0.frozen i
  have hlt := E.out.b0.lt
  go_wp2_with (with_reducible refine stop_load 45 (.tmp 3) rfl rfl ?_)
  clear p0 p1 p2 p3 p4 p5 p6 p7 ff hlt
  refine Stop.mk (wpList_loadB rfl _ _ rfl G rfl _ E.out.b0 strOp (Deed.arr_size hw.out) ?_)
  go_wp2_with (with_reducible refine stS 45 (.tmp 2) (.tmp 81) rfl rfl ?_)
  refine Stop.mk (wsB rfl _ _ _ rfl w.heap.size _ rfl rfl _ E.out.b1 strOp (Deed.arr_size hw.out) (by rw [Deed.arr_size hw.out]; rfl) (Deed.arr_ones hw.out) ?_)
  intro w99 hb99 hk99
  replace E := Lib.hid ((E.out.put1 hb99 hk99).state (show _ = rdDeed' st by rw [X1.out]))
  clear hk99
  go_wp2_with (fail)
  rw [X2.out]
  exact bodyPost_ret (results_B rfl rfl hb99 strOp (Deed.arr_size hw.out)) rfl ⟨wz, rfl, World.ownsRow_nil _ _ _ _, World.ownsRow_nil _ _ _ _, E.out.rd, E.out.kept⟩
set_option maxHeartbeats 40000000 in
set_option maxRecDepth 10000 in
theorem script_read_W3 (p : Option Nat) (st : Rd) (w : World) (hT : Tab w) (hr : RdP w p st) (hk0 : ddK st = 5) (hi0 : rdN (ddB st) 1073741823 = 0) (hc0 : (rdPatch (ddW st)).code = 0) : Calls Tryz.prog 11 #[ptr p] w (RetPD p (rdDeed' st) w (rdDeed st)) := by
  obtain ⟨x1, x2⟩ := dd_5 hk0
  obtain ⟨K, hK⟩ : ∃ K, K = ddK st := ⟨_, rfl⟩
  obtain ⟨D, hD⟩ : ∃ D, D = rdN (ddA st) 5 := ⟨_, rfl⟩
  have HD := Lib.hid hD
  obtain ⟨I, hI⟩ : ∃ D, D = rdN (ddB st) 1073741823 := ⟨_, rfl⟩
  have HI := Lib.hid hI
  obtain ⟨F, hF⟩ : ∃ D, D = rdPatch (ddW st) := ⟨_, rfl⟩
  have HF := Lib.hid hF
  rw [← hK] at hk0
  have FE : dE K = false := by unfold dE; simp; omega
  have FN : dN K = false := by unfold dN; simp; omega
  have FD : dD K = true := by unfold dD; simp; omega
  have FF : dF K = false := by unfold dF; simp; omega
  have FW : dW K = true := by unfold dW; simp; omega
  have FK : dK K = false := by unfold dK; simp; omega
  have FT : dT K = false := by unfold dT; simp; omega
  have j0 : (K == 0) = false := by simp; omega
  have X1 := Lib.hid x1
  have X2 := Lib.hid (show rdDeed st = { dz with kind := K, dev := D, id := I, p := F } by rw [x2, hk0, hD, hI, hF])
  have HK := Lib.hid (show rdN st 12 = K from hK.symm)
  have HA := Lib.hid (show rdN' st 12 = ddA st from (rdAb'_pos (by rw [show rdN st 12 = ddK st from rfl, ← hK]; omega)).symm)
  have hpT := Lib.hid (hr.tab hT)
  have HT := Lib.hid hT
  have HRD := Lib.hid hr
  have jI : (I == 0) = true := by rw [hI]; simpa using hi0
  have HI2 := Lib.hid (show rdF (rdN' (ddB st) 1073741823) 3 = ddW st from (rdAb'_zero hi0).symm)
  have jC : (F.code != 0) = false := by rw [hF]; simpa using hc0
  have HL := Lib.hid (show F.f.length = 8 by rw [hF]; exact rdPatch_len _)
  have HM := Lib.hid (show F.mask < 4294967296 by rw [hF]; have := (rdPatch_mask (ddW st)).1; omega)
  have HSZ := Lib.hid (show ∀ x ∈ F.f, x.s.length ≤ 4294967000 by rw [hF]; exact rdPatch_sizes _)
  clear hi0 hc0
  clear x1 hk0 hr hT hK x2 hD hI hF
  go_enter Tryz.func11, Tryz.ntmps11
  go_wp2_with (with_reducible refine stop_callS _ rfl ?_)
  refine Stop.mk (EnvP.go HRD.out ?_)
  intro w00 he00 hz00
  have E := Lib.hid he00
  clear he00
  go_wp2_with (fail)
  refine (c_octet_RNum p st 12 _ E.out.rd).mono ?_
  rintro e w6 ⟨rfl, hr6, hk6⟩
  rw [HK.out]
  have hz6 := hk6.size
  replace E := Lib.hid (E.out.call hr6 hk6)
  clear hr6 hk6
  go_wp2_with (with_reducible refine stop_build 45 _ rfl ?_)
  refine Stop.mk (wpList_buildD rfl _ _ rfl [(0, .int .i64 K)] (by rfl) (Deed.arr { dz with kind := K } wz) (built_kind K) ?_)
  go_wp2_with (with_reducible refine stS 45 (.tmp 3) (.tmp 6) rfl rfl ?_)
  refine Stop.mk (wsB rfl _ _ _ rfl w6.heap.size _ (by first | rfl | simp) rfl _ (Blk.new _ _ _) strOp (Deed.arr_size ⟨rfl, rfl⟩) (by rw [Deed.arr_size ⟨rfl, rfl⟩]; rfl) (Deed.arr_ones ⟨rfl, rfl⟩) ?_)
  intro w7 hb7 hk7
  replace E := Lib.hid ((E.out.alloc 45 _).put0 hb7 hk7)
  obtain ⟨G, hG⟩ : ∃ g, g = w6.heap.size := ⟨_, rfl⟩
  have HG := Lib.hid (show w.heap.size < G by omega)
  rw [← hG] at E ⊢
  clear hb7 hk7 hG hz6 hz00
  have hw := Lib.hid (show Deed.wf { dz with kind := K } from ⟨rfl, rfl⟩)
  obtain ⟨p0, p1, p2, p3, p4, p5, p6, p7⟩ := dcs hw.out E.out.b0
  have ff := fun i => E.out.b0.frozen i
  have hlt := E.out.b0.lt
  go_wp2_with (fail)
  clear p0 p1 p2 p3 p4 p5 p6 p7 ff hlt
  replace E := Lib.hid (E.out.state HA.out)
  refine (csh K 1 _).mono ?_
  rintro e w9 ⟨rfl, hb9⟩
  rw [hasD_E K, FE]
  replace E := Lib.hid (E.out.below hb9)
  clear hb9
  obtain ⟨p0, p1, p2, p3, p4, p5, p6, p7⟩ := dcs hw.out E.out.b0
  have ff := fun i => E.out.b0.frozen i
  have hlt := E.out.b0.lt
  go_wp2_with (fail)
  clear p0 p1 p2 p3 p4 p5 p6 p7 ff hlt
  refine (csh K 2 _).mono ?_
  rintro e w9 ⟨rfl, hb9⟩
  rw [hasD_N K, FN]
  replace E := Lib.hid (E.out.below hb9)
  clear hb9
  obtain ⟨p0, p1, p2, p3, p4, p5, p6, p7⟩ := dcs hw.out E.out.b0
  have ff := fun i => E.out.b0.frozen i
  have hlt := E.out.b0.lt
  go_wp2_with (fail)
  clear p0 p1 p2 p3 p4 p5 p6 p7 ff hlt
  refine (csh K 4 _).mono ?_
  rintro e w9 ⟨rfl, hb9⟩
  rw [hasD_D K, FD]
  replace E := Lib.hid (E.out.below hb9)
  clear hb9
  go_wp2_with (fail)
  refine (c_octet_RNum p _ 5 _ E.out.rd).mono ?_
  rintro e w9 ⟨rfl, hr9, hk9⟩
  rw [← HD.out]
  replace E := Lib.hid ((E.out.call hr9 hk9).state (show _ = ddB st from rfl))
  clear hr9 hk9
  obtain ⟨p0, p1, p2, p3, p4, p5, p6, p7⟩ := dcs hw.out E.out.b0
  have ff := fun i => E.out.b0.frozen i
  have hlt := E.out.b0.lt
  go_wp2_with (fail)
  clear p0 p1 p2 p3 p4 p5 p6 p7 ff hlt
  replace E := Lib.hid ((E.out.store0 2 (.int .i64 D)).as (show _ = Deed.arr { dz with kind := K, dev := D } wz from by have := Deed.setI hw.out (q := wz) 2 (by omega) D; simpa using this))
  replace hw := Lib.hid (show Deed.wf { dz with kind := K, dev := D } from ⟨hw.out.e, hw.out.p⟩)
  refine (csh K 8 _).mono ?_
  rintro e w9 ⟨rfl, hb9⟩
  rw [hasD_F K, FF]
  replace E := Lib.hid (E.out.below hb9)
  clear hb9
  obtain ⟨p0, p1, p2, p3, p4, p5, p6, p7⟩ := dcs hw.out E.out.b0
  have ff := fun i => E.out.b0.frozen i
  have hlt := E.out.b0.lt
  go_wp2_with (fail)
  clear p0 p1 p2 p3 p4 p5 p6 p7 ff hlt
  refine (csh K 16 _).mono ?_
  rintro e w9 ⟨rfl, hb9⟩
  rw [hasD_W K, FW]
  replace E := Lib.hid (E.out.below hb9)
  clear hb9
  go_wp2_with (fail)
  refine (c_octet_RNum p _ 1073741823 _ E.out.rd).mono ?_
  rintro e w9 ⟨rfl, hr9, hk9⟩
  rw [← HI.out]
  replace E := Lib.hid ((E.out.call hr9 hk9).state (show _ = rdN' (ddB st) 1073741823 from rfl))
  clear hr9 hk9
  obtain ⟨p0, p1, p2, p3, p4, p5, p6, p7⟩ := dcs hw.out E.out.b0
  have ff := fun i => E.out.b0.frozen i
  have hlt := E.out.b0.lt
  go_wp2_with (fail)
  clear p0 p1 p2 p3 p4 p5 p6 p7 ff hlt
  replace E := Lib.hid ((E.out.store0 3 (.int .i64 I)).as (show _ = Deed.arr { dz with kind := K, dev := D, id := I } wz from by have := Deed.setI hw.out (q := wz) 3 (by omega) I; simpa using this))
  replace hw := Lib.hid (show Deed.wf { dz with kind := K, dev := D, id := I } from ⟨hw.out.e, hw.out.p⟩)
  refine (c_octet_Fail p _ 3 _ E.out.rd).mono ?_
  rintro e w9 ⟨rfl, hr9, hk9⟩
  replace E := Lib.hid ((E.out.call hr9 hk9).state (show _ = ddW st from HI2.out))
  clear hr9 hk9
  go_wp2_with (fail)
  have HTw := Lib.hid (HT.out.kept E.out.kept hpT.out)
  refine (c_cardwire_Patch p _ _ HTw.out E.out.rd).mono ?_
  rintro e w9 ⟨rfl, hr9, hk9⟩
  rw [← HF.out]
  replace E := Lib.hid ((E.out.call hr9 hk9).state (show _ = rdPatch' (ddW st) from rfl))
  clear hr9 hk9
  go_wp2_with (with_reducible refine stS 39 (.tmp 53) (.tmp 52) rfl rfl ?_)
  refine Stop.mk (wpList_storeAt rfl _ _ _ rfl G 35 F.arr rfl rfl _ E.out.b0 strP (by rw [Patch.arr_size, HL.out]) (by rw [Patch.arr_size, HL.out, Deed.arr_size hw.out]; decide) (Patch.arr_one _) ?_)
  intro w20 hb20 hk20
  replace E := Lib.hid (E.out.put0 (show Blk w20 G (Deed.arr { dz with kind := K, dev := D, id := I, p := F } wz) by rw [← Deed.putP hw.out F HL.out]; exact hb20) hk20)
  replace hw := Lib.hid (show Deed.wf { dz with kind := K, dev := D, id := I, p := F } from ⟨hw.out.e, HL.out⟩)
  clear hb20 hk20
  clear HTw
  go_wp2_with (with_reducible refine slG 39 (.tmp 54) rfl ?_)
  refine Stop.mk (wlG (by rfl) _ _ rfl G 35 rfl F.arr (deed_patch hw.out E.out.b0) strP (by rw [Patch.arr_size, HL.out]) ?_)
  go_wp2_with (fail)
  refine (c_card_CheckPatch F _ HM.out HL.out HSZ.out).mono ?_
  rintro e w6 ⟨rfl, hb6⟩
  replace E := Lib.hid (E.out.below hb6)
  clear hb6
  obtain ⟨p0, p1, p2, p3, p4, p5, p6, p7⟩ := dcs hw.out E.out.b0
  have ff := fun i => E.out.b0.frozen i
  have hlt := E.out.b0.lt
  go_wp2_with (fail)
  clear p0 p1 p2 p3 p4 p5 p6 p7 ff hlt
  refine (csh K 32 _).mono ?_
  rintro e w9 ⟨rfl, hb9⟩
  rw [hasD_K K, FK]
  replace E := Lib.hid (E.out.below hb9)
  clear hb9
  obtain ⟨p0, p1, p2, p3, p4, p5, p6, p7⟩ := dcs hw.out E.out.b0
  have ff := fun i => E.out.b0.frozen i
  have hlt := E.out.b0.lt
  go_wp2_with (fail)
  clear p0 p1 p2 p3 p4 p5 p6 p7 ff hlt
  refine (csh K 64 _).mono ?_
  rintro e w9 ⟨rfl, hb9⟩
  rw [hasD_T K, FT]
  replace E := Lib.hid (E.out.below hb9)
  clear hb9
  obtain ⟨p0, p1, p2, p3, p4, p5, p6, p7⟩ := dcs hw.out E.out.b0
  have ff := fun i => E.out.b0.frozen i
  have hlt := E.out.b0.lt
  go_wp2_with (with_reducible refine stop_load 45 (.tmp 3) rfl rfl ?_)
  clear p0 p1 p2 p3 p4 p5 p6 p7 ff hlt
  refine Stop.mk (wpList_loadB rfl _ _ rfl G rfl _ E.out.b0 strOp (Deed.arr_size hw.out) ?_)
  go_wp2_with (with_reducible refine stS 45 (.tmp 2) (.tmp 81) rfl rfl ?_)
  refine Stop.mk (wsB rfl _ _ _ rfl w.heap.size _ rfl rfl _ E.out.b1 strOp (Deed.arr_size hw.out) (by rw [Deed.arr_size hw.out]; rfl) (Deed.arr_ones hw.out) ?_)
  intro w99 hb99 hk99
  replace E := Lib.hid ((E.out.put1 hb99 hk99).state (show _ = rdDeed' st by rw [X1.out]))
  clear hk99
  go_wp2_with (fail)
  rw [X2.out]
  exact bodyPost_ret (results_B rfl rfl hb99 strOp (Deed.arr_size hw.out)) rfl ⟨wz, rfl, World.ownsRow_nil _ _ _ _, World.ownsRow_nil _ _ _ _, E.out.rd, E.out.kept⟩
set_option maxHeartbeats 40000000 in
set_option maxRecDepth 10000 in
theorem script_read_W4 (p : Option Nat) (st : Rd) (w : World) (hT : Tab w) (hr : RdP w p st) (hk0 : ddK st = 5) (hi0 : rdN (ddB st) 1073741823 = 0) (hc0 : ¬ (rdPatch (ddW st)).code = 0) : Calls Tryz.prog 11 #[ptr p] w (RetPD p (rdDeed' st) w (rdDeed st)) := by
  obtain ⟨x1, x2⟩ := dd_5 hk0
  obtain ⟨K, hK⟩ : ∃ K, K = ddK st := ⟨_, rfl⟩
  obtain ⟨D, hD⟩ : ∃ D, D = rdN (ddA st) 5 := ⟨_, rfl⟩
  have HD := Lib.hid hD
  obtain ⟨I, hI⟩ : ∃ D, D = rdN (ddB st) 1073741823 := ⟨_, rfl⟩
  have HI := Lib.hid hI
  obtain ⟨F, hF⟩ : ∃ D, D = rdPatch (ddW st) := ⟨_, rfl⟩
  have HF := Lib.hid hF
  rw [← hK] at hk0
  have FE : dE K = false := by unfold dE; simp; omega
  have FN : dN K = false := by unfold dN; simp; omega
  have FD : dD K = true := by unfold dD; simp; omega
  have FF : dF K = false := by unfold dF; simp; omega
  have FW : dW K = true := by unfold dW; simp; omega
  have FK : dK K = false := by unfold dK; simp; omega
  have FT : dT K = false := by unfold dT; simp; omega
  have j0 : (K == 0) = false := by simp; omega
  have X1 := Lib.hid x1
  have X2 := Lib.hid (show rdDeed st = { dz with kind := K, dev := D, id := I, p := F } by rw [x2, hk0, hD, hI, hF])
  have HK := Lib.hid (show rdN st 12 = K from hK.symm)
  have HA := Lib.hid (show rdN' st 12 = ddA st from (rdAb'_pos (by rw [show rdN st 12 = ddK st from rfl, ← hK]; omega)).symm)
  have hpT := Lib.hid (hr.tab hT)
  have HT := Lib.hid hT
  have HRD := Lib.hid hr
  have jI : (I == 0) = true := by rw [hI]; simpa using hi0
  have HI2 := Lib.hid (show rdF (rdN' (ddB st) 1073741823) 3 = ddW st from (rdAb'_zero hi0).symm)
  have jC : (F.code != 0) = true := by rw [hF]; simpa using hc0
  have HL := Lib.hid (show F.f.length = 8 by rw [hF]; exact rdPatch_len _)
  have HM := Lib.hid (show F.mask < 4294967296 by rw [hF]; have := (rdPatch_mask (ddW st)).1; omega)
  have HSZ := Lib.hid (show ∀ x ∈ F.f, x.s.length ≤ 4294967000 by rw [hF]; exact rdPatch_sizes _)
  have HE := Lib.hid (show (rdPatch' (ddW st)).e ≠ 0 from fun h0 => hc0 (rdPatch_took h0).2.1)
  clear hi0 hc0
  clear x1 hk0 hr hT hK x2 hD hI hF
  go_enter Tryz.func11, Tryz.ntmps11
  go_wp2_with (with_reducible refine stop_callS _ rfl ?_)
  refine Stop.mk (EnvP.go HRD.out ?_)
  intro w00 he00 hz00
  have E := Lib.hid he00
  clear he00
  go_wp2_with (fail)
  refine (c_octet_RNum p st 12 _ E.out.rd).mono ?_
  rintro e w6 ⟨rfl, hr6, hk6⟩
  rw [HK.out]
  have hz6 := hk6.size
  replace E := Lib.hid (E.out.call hr6 hk6)
  clear hr6 hk6
  go_wp2_with (with_reducible refine stop_build 45 _ rfl ?_)
  refine Stop.mk (wpList_buildD rfl _ _ rfl [(0, .int .i64 K)] (by rfl) (Deed.arr { dz with kind := K } wz) (built_kind K) ?_)
  go_wp2_with (with_reducible refine stS 45 (.tmp 3) (.tmp 6) rfl rfl ?_)
  refine Stop.mk (wsB rfl _ _ _ rfl w6.heap.size _ (by first | rfl | simp) rfl _ (Blk.new _ _ _) strOp (Deed.arr_size ⟨rfl, rfl⟩) (by rw [Deed.arr_size ⟨rfl, rfl⟩]; rfl) (Deed.arr_ones ⟨rfl, rfl⟩) ?_)
  intro w7 hb7 hk7
  replace E := Lib.hid ((E.out.alloc 45 _).put0 hb7 hk7)
  obtain ⟨G, hG⟩ : ∃ g, g = w6.heap.size := ⟨_, rfl⟩
  have HG := Lib.hid (show w.heap.size < G by omega)
  rw [← hG] at E ⊢
  clear hb7 hk7 hG hz6 hz00
  have hw := Lib.hid (show Deed.wf { dz with kind := K } from ⟨rfl, rfl⟩)
  obtain ⟨p0, p1, p2, p3, p4, p5, p6, p7⟩ := dcs hw.out E.out.b0
  have ff := fun i => E.out.b0.frozen i
  have hlt := E.out.b0.lt
  go_wp2_with (fail)
  clear p0 p1 p2 p3 p4 p5 p6 p7 ff hlt
  replace E := Lib.hid (E.out.state HA.out)
  refine (csh K 1 _).mono ?_
  rintro e w9 ⟨rfl, hb9⟩
  rw [hasD_E K, FE]
  replace E := Lib.hid (E.out.below hb9)
  clear hb9
  obtain ⟨p0, p1, p2, p3, p4, p5, p6, p7⟩ := dcs hw.out E.out.b0
  have ff := fun i => E.out.b0.frozen i
  have hlt := E.out.b0.lt
  go_wp2_with (fail)
  clear p0 p1 p2 p3 p4 p5 p6 p7 ff hlt
  refine (csh K 2 _).mono ?_
  rintro e w9 ⟨rfl, hb9⟩
  rw [hasD_N K, FN]
  replace E := Lib.hid (E.out.below hb9)
  clear hb9
  obtain ⟨p0, p1, p2, p3, p4, p5, p6, p7⟩ := dcs hw.out E.out.b0
  have ff := fun i => E.out.b0.frozen i
  have hlt := E.out.b0.lt
  go_wp2_with (fail)
  clear p0 p1 p2 p3 p4 p5 p6 p7 ff hlt
  refine (csh K 4 _).mono ?_
  rintro e w9 ⟨rfl, hb9⟩
  rw [hasD_D K, FD]
  replace E := Lib.hid (E.out.below hb9)
  clear hb9
  go_wp2_with (fail)
  refine (c_octet_RNum p _ 5 _ E.out.rd).mono ?_
  rintro e w9 ⟨rfl, hr9, hk9⟩
  rw [← HD.out]
  replace E := Lib.hid ((E.out.call hr9 hk9).state (show _ = ddB st from rfl))
  clear hr9 hk9
  obtain ⟨p0, p1, p2, p3, p4, p5, p6, p7⟩ := dcs hw.out E.out.b0
  have ff := fun i => E.out.b0.frozen i
  have hlt := E.out.b0.lt
  go_wp2_with (fail)
  clear p0 p1 p2 p3 p4 p5 p6 p7 ff hlt
  replace E := Lib.hid ((E.out.store0 2 (.int .i64 D)).as (show _ = Deed.arr { dz with kind := K, dev := D } wz from by have := Deed.setI hw.out (q := wz) 2 (by omega) D; simpa using this))
  replace hw := Lib.hid (show Deed.wf { dz with kind := K, dev := D } from ⟨hw.out.e, hw.out.p⟩)
  refine (csh K 8 _).mono ?_
  rintro e w9 ⟨rfl, hb9⟩
  rw [hasD_F K, FF]
  replace E := Lib.hid (E.out.below hb9)
  clear hb9
  obtain ⟨p0, p1, p2, p3, p4, p5, p6, p7⟩ := dcs hw.out E.out.b0
  have ff := fun i => E.out.b0.frozen i
  have hlt := E.out.b0.lt
  go_wp2_with (fail)
  clear p0 p1 p2 p3 p4 p5 p6 p7 ff hlt
  refine (csh K 16 _).mono ?_
  rintro e w9 ⟨rfl, hb9⟩
  rw [hasD_W K, FW]
  replace E := Lib.hid (E.out.below hb9)
  clear hb9
  go_wp2_with (fail)
  refine (c_octet_RNum p _ 1073741823 _ E.out.rd).mono ?_
  rintro e w9 ⟨rfl, hr9, hk9⟩
  rw [← HI.out]
  replace E := Lib.hid ((E.out.call hr9 hk9).state (show _ = rdN' (ddB st) 1073741823 from rfl))
  clear hr9 hk9
  obtain ⟨p0, p1, p2, p3, p4, p5, p6, p7⟩ := dcs hw.out E.out.b0
  have ff := fun i => E.out.b0.frozen i
  have hlt := E.out.b0.lt
  go_wp2_with (fail)
  clear p0 p1 p2 p3 p4 p5 p6 p7 ff hlt
  replace E := Lib.hid ((E.out.store0 3 (.int .i64 I)).as (show _ = Deed.arr { dz with kind := K, dev := D, id := I } wz from by have := Deed.setI hw.out (q := wz) 3 (by omega) I; simpa using this))
  replace hw := Lib.hid (show Deed.wf { dz with kind := K, dev := D, id := I } from ⟨hw.out.e, hw.out.p⟩)
  refine (c_octet_Fail p _ 3 _ E.out.rd).mono ?_
  rintro e w9 ⟨rfl, hr9, hk9⟩
  replace E := Lib.hid ((E.out.call hr9 hk9).state (show _ = ddW st from HI2.out))
  clear hr9 hk9
  go_wp2_with (fail)
  have HTw := Lib.hid (HT.out.kept E.out.kept hpT.out)
  refine (c_cardwire_Patch p _ _ HTw.out E.out.rd).mono ?_
  rintro e w9 ⟨rfl, hr9, hk9⟩
  rw [← HF.out]
  replace E := Lib.hid ((E.out.call hr9 hk9).state (show _ = rdPatch' (ddW st) from rfl))
  clear hr9 hk9
  go_wp2_with (with_reducible refine stS 39 (.tmp 53) (.tmp 52) rfl rfl ?_)
  refine Stop.mk (wpList_storeAt rfl _ _ _ rfl G 35 F.arr rfl rfl _ E.out.b0 strP (by rw [Patch.arr_size, HL.out]) (by rw [Patch.arr_size, HL.out, Deed.arr_size hw.out]; decide) (Patch.arr_one _) ?_)
  intro w20 hb20 hk20
  replace E := Lib.hid (E.out.put0 (show Blk w20 G (Deed.arr { dz with kind := K, dev := D, id := I, p := F } wz) by rw [← Deed.putP hw.out F HL.out]; exact hb20) hk20)
  replace hw := Lib.hid (show Deed.wf { dz with kind := K, dev := D, id := I, p := F } from ⟨hw.out.e, HL.out⟩)
  clear hb20 hk20
  clear HTw
  go_wp2_with (with_reducible refine slG 39 (.tmp 54) rfl ?_)
  refine Stop.mk (wlG (by rfl) _ _ rfl G 35 rfl F.arr (deed_patch hw.out E.out.b0) strP (by rw [Patch.arr_size, HL.out]) ?_)
  go_wp2_with (fail)
  refine (c_card_CheckPatch F _ HM.out HL.out HSZ.out).mono ?_
  rintro e w6 ⟨rfl, hb6⟩
  replace E := Lib.hid (E.out.below hb6)
  clear hb6
  go_wp2_with (fail)
  refine (c_octet_Fail p _ 3 _ E.out.rd).mono ?_
  rintro e w9 ⟨rfl, hr9, hk9⟩
  replace E := Lib.hid ((E.out.call hr9 hk9).state (show _ = rdPatch' (ddW st) from rdF_err HE.out))
  clear hr9 hk9
  obtain ⟨p0, p1, p2, p3, p4, p5, p6, p7⟩ := dcs hw.out E.out.b0
  have ff := fun i => E.out.b0.frozen i
  have hlt := E.out.b0.lt
  go_wp2_with (fail)
  clear p0 p1 p2 p3 p4 p5 p6 p7 ff hlt
  refine (csh K 32 _).mono ?_
  rintro e w9 ⟨rfl, hb9⟩
  rw [hasD_K K, FK]
  replace E := Lib.hid (E.out.below hb9)
  clear hb9
  obtain ⟨p0, p1, p2, p3, p4, p5, p6, p7⟩ := dcs hw.out E.out.b0
  have ff := fun i => E.out.b0.frozen i
  have hlt := E.out.b0.lt
  go_wp2_with (fail)
  clear p0 p1 p2 p3 p4 p5 p6 p7 ff hlt
  refine (csh K 64 _).mono ?_
  rintro e w9 ⟨rfl, hb9⟩
  rw [hasD_T K, FT]
  replace E := Lib.hid (E.out.below hb9)
  clear hb9
  obtain ⟨p0, p1, p2, p3, p4, p5, p6, p7⟩ := dcs hw.out E.out.b0
  have ff := fun i => E.out.b0.frozen i
  have hlt := E.out.b0.lt
  go_wp2_with (with_reducible refine stop_load 45 (.tmp 3) rfl rfl ?_)
  clear p0 p1 p2 p3 p4 p5 p6 p7 ff hlt
  refine Stop.mk (wpList_loadB rfl _ _ rfl G rfl _ E.out.b0 strOp (Deed.arr_size hw.out) ?_)
  go_wp2_with (with_reducible refine stS 45 (.tmp 2) (.tmp 81) rfl rfl ?_)
  refine Stop.mk (wsB rfl _ _ _ rfl w.heap.size _ rfl rfl _ E.out.b1 strOp (Deed.arr_size hw.out) (by rw [Deed.arr_size hw.out]; rfl) (Deed.arr_ones hw.out) ?_)
  intro w99 hb99 hk99
  replace E := Lib.hid ((E.out.put1 hb99 hk99).state (show _ = rdDeed' st by rw [X1.out]))
  clear hk99
  go_wp2_with (fail)
  rw [X2.out]
  exact bodyPost_ret (results_B rfl rfl hb99 strOp (Deed.arr_size hw.out)) rfl ⟨wz, rfl, World.ownsRow_nil _ _ _ _, World.ownsRow_nil _ _ _ _, E.out.rd, E.out.kept⟩
end Go.Proofs.YtiedkcijjfmhaaaGreatDoor
namespace Go.Proofs.YtiedkcijjfmhaaaGreatDoor
open Go.RowKit

theorem c_script_read (p : Option Nat) (st : Rd) (w : World) (hT : Tab w) (hr : RdP w p st) : Calls Tryz.prog 11 #[ptr p] w (RetPD p (rdDeed' st) w (rdDeed st)) := by
  rcases ddK_cases st with h | h | h | h | h | h | h | h
  · exact script_read_Z p st w hT hr h
  · exact script_read_E p st w hT hr h
  · exact script_read_N p st w hT hr (by unfold dN at h; simp only [decide_eq_true_eq] at h; omega)
  · exact script_read_F p st w hT hr h
  · exact script_read_D p st w hT hr h
  · by_cases hi : rdN (ddB st) 1073741823 = 0
    · by_cases hc : (rdPatch (ddW st)).code = 0
      · exact script_read_W3 p st w hT hr h hi hc
      · exact script_read_W4 p st w hT hr h hi hc
    · by_cases hc : (rdPatch (ddW st)).code = 0
      · exact script_read_W1 p st w hT hr h hi hc
      · exact script_read_W2 p st w hT hr h hi hc
  · exact script_read_K p st w hT hr h
  · exact script_read_T p st w hT hr h
end Go.Proofs.YtiedkcijjfmhaaaGreatDoor
namespace Go.Proofs.YtiedkcijjfmhaaaGreatDoor
open Go.RowKit

theorem stop_conv {P : Program} {w : World} {ops : Array Oper} {rest : List Oper} {o : Oper} {a : Act} {Q : Exit → Act → World → Prop} (src dst : TypeId) (x : Operand) (_ : o.op = .convert src dst x) (h : Stop (wpList P ops Q (o :: rest) a w)) : wpList P ops Q (o :: rest) a w := h
/-- A text as bytes. -/
theorem wpList_toBytes {P : Program} {w : World} {ops : Array Oper} {rest : List Oper} {o : Oper} {a : Act} {Q : Exit → Act → World → Prop} (hgd : o.guard = none) (src dst : TypeId) (x : Operand) (ho : o.op = .convert src dst x) (l : List UInt8) (hx : a.eval x = .string (str l)) {e : TypeId}
    (hs : P.underlying src = some .string) (hd : P.underlying dst = some (.slice e)) (he : P.underlying e = some (.int .u8)) (hl : l.length ≤ 4294967296)
    (h : ∀ (g c : Nat) (w' : World), InB w' (some ⟨g, 0, none⟩) c l → Below w.heap.size w w' → wpList P ops Q rest (a.put o.dst (.slice (some ⟨g, 0, none⟩) l.length c)) w') : wpList P ops Q (o :: rest) a w := by
  have hsz : (str l).size = l.length := by show l.toArray.size = _; simp
  have hge := grownCap_ge w l.length 0 e
  have hle := grownCap_le_maxLen w l.length 0 e (by unfold maxLen; omega)
  have key := run_bytes_of_string (P := P) w src dst e (str l) hs hd he
  rw [hsz] at key
  refine wpList_plain hgd fun K hK => ?_
  unfold Oper.wp execOp
  simp only [ho, hx, Sem.run_bind, Sem.run_pure, Result.andThen_ok, key]
  refine hK _ _ (h _ _ _ ?_ ?_)
  · refine ⟨hge, by unfold maxLen at hle; omega, hl, .inr ⟨w.heap.size, 0, rfl, ?_, fun i hi j u hu => ?_⟩⟩
    · show _ < (w.heap.push _).size
      simp
    · have hj : j = 0 := by
        have := (List.getElem?_eq_some_iff.1 hu).1
        simp [bc] at this
        omega
      subst hj
      rw [show (0 : Nat) + i * 1 + 0 = i by omega]
      have hc := World.cell?_alloc_mark w.drew (bytesRow (str l) (grownCap w l.length 0 e)) e ((bytesRow (str l) (grownCap w l.length 0 e)).size, (bytesRow (str l) (grownCap w l.length 0 e)).size + 1) i
      have hd2 : w.drew.heap.size = w.heap.size := rfl
      rw [hd2] at hc
      rw [hc, bytesRow_at (str l) _ i (by show i < l.toArray.size; simpa using hi)]
      simp [bc] at hu
      rw [← hu]
      show some (Value.int .u8 (l.toArray[i].toNat : Int)) = _
      simp
  · exact (Below.refl _ _).drew.alloc (Nat.le_refl _) _
/-! What is read lies within the bounds of memory. -/
theorem rdEdit_sizesS (st : Rd) : (rdEdit st).p.mask < 4294967296 ∧ ∀ x ∈ (rdEdit st).p.f, x.s.length ≤ 4294967000 := by
  unfold rdEdit; split
  · unfold edEdit edP
    show Patch.mask (if hasP (edK st) = true then rdPatch (edC st) else pz) < 4294967296 ∧ ∀ x ∈ Patch.f (if hasP (edK st) = true then rdPatch (edC st) else pz), x.s.length ≤ 4294967000
    split
    · exact ⟨by have := (rdPatch_mask (edC st)).1; omega, rdPatch_sizes _⟩
    · exact ⟨by decide, by decide⟩
  · exact ⟨by decide, by decide⟩
theorem rdPred_sizesS (st : Rd) : (rdPred st).length ≤ 31 ∧ ∀ x ∈ rdPred st, x.v.s.length ≤ 4294967000 := by
  unfold rdPred
  split
  · exact ⟨pdL_len _, fun x hx => by have := rdNodes_texts _ _ x hx; omega⟩
  · exact ⟨by simp, fun x hx => by simp at hx⟩
theorem rdDeed_fit (st : Rd) : (rdDeed st).fit ∧ (rdDeed st).f.length ≤ 31 ∧ (rdDeed st).keep.length ≤ 40 := by
  have ze : ∀ x ∈ ez.p.f, x.s.length ≤ 4294967000 := by decide
  have zp : ∀ x ∈ pz.f, x.s.length ≤ 4294967000 := by decide
  have zf : ∀ x ∈ ([] : List Node), x.v.s.length ≤ 4294967000 := by intro x hx; cases hx
  have zt : ([] : List UInt8).length ≤ 4294967000 := by simp
  have me : ez.p.mask < 4294967296 := by decide
  have mp : pz.mask < 4294967296 := by decide
  have z0 : (0 : Nat) < 4294967296 := by decide
  rcases ddK_cases st with k | k | k | k | k | k | k | k
  · rw [dd_z k]; exact ⟨⟨⟨rfl, rfl⟩, zf, ze, zp, me, mp, z0, zt⟩, by simp, by simp⟩
  · rw [(dd_1 k).2]
    have := rdEdit_sizesS (ddA st)
    exact ⟨⟨⟨rdEdit_len _, rfl⟩, zf, this.2, zp, this.1, mp, z0, zt⟩, by simp, by simp⟩
  · rw [(dd_N k).2]; exact ⟨⟨⟨rfl, rfl⟩, zf, ze, zp, me, mp, z0, zt⟩, by simp, by simp⟩
  · rw [(dd_3 k).2]
    have h1 := rdPred_sizesS (ddB st)
    have h2 := rdN_bd (ddF st) 511
    exact ⟨⟨⟨rfl, rfl⟩, h1.2, ze, zp, me, mp, by show (rdN (ddF st) 511).toNat < 4294967296; omega, zt⟩, h1.1, by simp⟩
  · rw [(dd_D k).2]; exact ⟨⟨⟨rfl, rfl⟩, zf, ze, zp, me, mp, z0, zt⟩, by simp, by simp⟩
  · rw [(dd_5 k).2]
    have h1 := (rdPatch_mask (ddW st)).1
    exact ⟨⟨⟨rfl, rdPatch_len _⟩, zf, ze, rdPatch_sizes _, me, by show (rdPatch (ddW st)).mask < 4294967296; omega, z0, zt⟩, by simp, by simp⟩
  · rw [(dd_11 k).2]
    have h2 := rdN_bd (ddA st) 40
    refine ⟨⟨⟨rfl, rfl⟩, zf, ze, zp, me, mp, z0, zt⟩, by simp, ?_⟩
    show (rdInts 2 (ddC st) (ddL st)).length ≤ 40
    rw [rdInts_len]; unfold ddC; omega
  · rw [(dd_12 k).2]
    have h := (rdS_len (ddA st) 4096).2.1
    refine ⟨⟨⟨rfl, rfl⟩, zf, ze, zp, me, mp, z0, ?_⟩, by simp, by simp⟩
    show (rdS (ddA st) 4096).length ≤ 4294967000
    rcases h with h | h
    · omega
    · rw [h]; simp
/-- An act's lists are the call's own. -/
def OwnD (w : World) (B : Nat) (x : DQ) : Prop :=
  w.ownsRow B 96 5 (.slice x.q.A x.o.f.length x.q.n) x.o.f.length (x.o.f.flatMap Node.cells) ∧ w.ownsRow B 3 1 (.slice x.q.K x.o.keep.length x.q.m) x.o.keep.length (x.o.keep.flatMap ic)
theorem OwnD.kept {w w' : World} {B : Nat} {x : DQ} {p : Option Nat} (h : OwnD w B x) (k : Kept p w.heap.size w w') (hp : ∀ g, p = some g → g < B) : OwnD w' B x := ⟨own_kept h.1 k hp, own_kept h.2 k hp⟩
theorem OwnD.below {w w' : World} {B : Nat} {x : DQ} (h : OwnD w B x) (k : Below w.heap.size w w') : OwnD w' B x := ⟨own_below h.1 k, own_below h.2 k⟩
theorem OwnD.app {w w' : World} {B b2 s2 n2 : Nat} {x : DQ} {v2 : Value} {x2 : List Value} (h : OwnD w B x) (o : w.ownsRow b2 45 s2 v2 n2 x2) (hg : w.grownBy w' v2.ownBlock) : OwnD w' B x :=
  ⟨own_kept_ne h.1 o (by decide) hg, own_kept_ne h.2 o (by decide) hg⟩
theorem OwnD.at_ {w : World} {B : Nat} {x : DQ} (h : OwnD w B x) (h1 : x.o.f.length ≤ 31) (h2 : x.o.keep.length ≤ 40) : x.o.at_ w x.q := ⟨In.own4 Node.cells_len h.1 (by omega), In.own4 ic_len h.2 (by omega)⟩
/-- The state of Decode's loop. -/
structure DS (w w' : World) (g B : Nat) (S : Rd) (A : Option Addr) (c : Nat) (l : List DQ) : Prop where
  below : Below w.heap.size w w'
  rd : RdP w' (some g) S
  hB : B ≤ w'.heap.size
  own : w'.ownsRow B 45 63 (.slice A l.length c) l.length (l.flatMap DQ.cells)
  each : ∀ x ∈ l, OwnD w' B x
  small : ∀ x ∈ l, x.o.fit ∧ x.o.f.length ≤ 31 ∧ x.o.keep.length ≤ 40
  hg : w.heap.size ≤ g
  gB : g < B
section
variable {w w1 w2 : World} {g B : Nat} {S S' : Rd} {A A' : Option Addr} {c c' : Nat} {l : List DQ}
theorem DS.step (h : DS w w1 g B S A c l) (hb : Below w1.heap.size w1 w2) : DS w w2 g B S A c l :=
  ⟨h.below.trans (hb.mono h.below.size), h.rd.below hb, Nat.le_trans h.hB hb.size, own_below h.own hb, fun x hx => (h.each x hx).below hb, h.small, h.hg, h.gB⟩
theorem DS.call (h : DS w w1 g B S A c l) (r : RdP w2 (some g) S') (k : Kept (some g) w1.heap.size w1 w2) : DS w w2 g B S' A c l := by
  have hp : ∀ x, some g = some x → x < B := fun x hx => by injection hx with hx; have := h.gB; omega
  exact ⟨h.below.trans (k.oneB h.below.size h.hg), r, Nat.le_trans h.hB k.size, own_kept h.own k hp, fun x hx => (h.each x hx).kept k hp, h.small, h.hg, h.gB⟩
theorem DS.inQ (h : DS w w1 g B S A c l) (hl : l.length ≤ 400) : InQ w1 A c l :=
  ⟨In.own4 DQ.cells_len h.own (by omega), fun x hx => (h.small x hx).1, fun x hx => (h.each x hx).at_ (h.small x hx).2.1 (h.small x hx).2.2⟩
end
/-- The end of Decode. -/
def RetDec (w : World) (s : List UInt8) (e : Ending) (w' : World) : Prop :=
  ∃ (A : Option Addr) (c : Nat) (l : List DQ), e = .returned (.tuple #[.slice A l.length c, .int .i64 (rdScriptE s)]) ∧ InQ w' A c l ∧ deeds l = rdScript s ∧ Below w.heap.size w w'
theorem InQ.nil (w : World) : InQ w none 0 [] := ⟨In.nil (by omega), (fun _ h => by cases h), (fun _ h => by cases h)⟩
theorem rdDeeds_brk {S S' : Rd} {n : Nat} (h : S' = rdDeed' S) (he : S'.e ≠ 0) : rdDeeds' (n + 1) S = S' := by
  by_cases h0 : S.e = 0
  · rw [rdDeeds'_ok h0, ← h, rdDeeds'_bad he]
  · rw [rdDeeds'_bad h0, h, rdDeed'_err h0]
theorem rdDeeds_go {S S' : Rd} {n : Nat} (h : S' = rdDeed' S) (he : S'.e = 0) : rdDeeds' (n + 1) S = rdDeeds' n S' ∧ rdDeeds (n + 1) S = rdDeed S :: rdDeeds n S' := by
  have h0 : S.e = 0 := by
    rcases Classical.em (S.e = 0) with h0 | h0
    · exact h0
    · rw [h, rdDeed'_err h0] at he; exact absurd he h0
  rw [rdDeeds'_ok h0, rdDeeds_ok h0, ← h]
  exact ⟨rfl, rfl⟩
theorem rdScript_bad {s : List UInt8} (h : rdScriptE s ≠ 0) : rdScript s = [] := by unfold rdScript; rw [if_neg h]
theorem rdScript_good {s : List UInt8} (h : rdScriptE s = 0) : rdScript s = scL s := by unfold rdScript; rw [if_pos h]
theorem cells_flat (l : List DQ) (x : DQ) : (l ++ [x]).flatMap DQ.cells = l.flatMap DQ.cells ++ x.cells := by rw [List.flatMap_append, List.flatMap_cons, List.flatMap_nil, List.append_nil]
theorem deeds_snoc (l : List DQ) (x : DQ) : deeds (l ++ [x]) = deeds l ++ [x.o] := by unfold deeds; simp
set_option maxHeartbeats 8000000 in
set_option maxRecDepth 10000 in
theorem c_script_Decode (s : List UInt8) (w : World) (hT : Tab w) (hs : s.length ≤ 1000000) : Calls Tryz.prog 5 #[.string (str s)] w (RetDec w s) := by
  have HT := Lib.hid hT
  obtain ⟨N, hN⟩ : ∃ N : Nat, (N : Int) = rdN ⟨s, 0⟩ 400 := ⟨(rdN ⟨s, 0⟩ 400).toNat, by have := rdN_bd ⟨s, 0⟩ 400; omega⟩
  have hN4 := rdN_bd ⟨s, 0⟩ 400
  rw [← hN] at hN4
  have hN40 : N ≤ 400 := by omega
  have HN := Lib.hid hN
  have HSN := Lib.hid (show scN s = N by unfold scN; rw [← hN, Int.toNat_natCast])
  clear hT hN hN4
  go_enter Tryz.func5, Tryz.ntmps5
  go_wp2_with (with_reducible refine stop_conv 9 48 _ rfl ?_)
  refine Stop.mk (wpList_toBytes rfl _ _ _ rfl s rfl Tryz.underlying9 Tryz.underlying48 Tryz.underlying5 (by omega) ?_)
  intro g0 c0 w0 hin hb0
  have IN := Lib.hid hin
  have B0 := Lib.hid hb0
  clear hin hb0
  go_wp2_with (fail)
  refine (c_octet_New s _ c0 _ IN.out).mono ?_
  rintro e w1 ⟨g, rfl, hg, hr1, hb1⟩
  have B1 := Lib.hid (B0.out.trans (hb1.mono B0.out.size))
  have hgw := Nat.le_trans B0.out.size hg
  have R1 := Lib.hid hr1
  clear IN B0 hb1 hr1 hg
  go_wp2_with (fail)
  refine (c_octet_RNum (some g) _ 400 _ R1.out).mono ?_
  rintro e w2 ⟨rfl, hr2, hk2⟩
  rw [← HN.out]
  obtain ⟨B, hB⟩ : ∃ B, B = w2.heap.size := ⟨_, rfl⟩
  have S0 := Lib.hid (show DS w w2 g B (rdN' ⟨s, 0⟩ 400) none 0 [] from ⟨B1.out.trans (hk2.oneB B1.out.size hgw), hr2, by omega, World.ownsRow_nil _ _ _ _, (fun _ h => by cases h), (fun _ h => by cases h), hgw, by rw [hB]; exact hr2.lt rfl⟩)
  clear hr2 hk2 B1 R1 hB hgw
  go_wp2_with (fail)
  go_loopw [5, 12] (fun v i wr => ∃ (k : Nat) (A : Option Addr) (c : Nat) (l : List DQ) (S : Rd), k ≤ N ∧ i = .int .i64 k ∧ v = .slice A l.length c ∧ Hid (l.length = k) ∧ Hid (DS w wr g B S A c l) ∧ Hid (deeds l ++ rdDeeds (N - k) S = scL s ∧ rdDeeds' (N - k) S = scS s)) (fun _ i _ => N - (intOf i).toNat)
  case atStart => exact ⟨0, none, 0, [], rdN' ⟨s, 0⟩ 400, by omega, rfl, rfl, rfl, S0.out, by unfold scL scS; rw [HSN.out]; exact ⟨rfl, rfl⟩⟩
  case round =>
    obtain ⟨k, A, c, l, S, hk, rfl, rfl, HLN, D, R⟩ := hrel
    clear S0
    by_cases hlt : k < N
    · have d1 : decide ((k : Int) < (N : Int)) = true := by simp; omega
      have hk401 : k < 401 := by omega
      obtain ⟨n, hn⟩ : ∃ n, N - k = n + 1 := ⟨N - k - 1, by omega⟩
      obtain ⟨r1, r2⟩ := R.out
      rw [hn] at r1 r2
      have hn2 := Lib.hid (show N - (k + 1) = n by omega)
      obtain ⟨S', hS'⟩ : ∃ S', S' = rdDeed' S := ⟨_, rfl⟩
      have HS := Lib.hid hS'
      have R1 := Lib.hid r1
      have R2 := Lib.hid r2
      obtain ⟨f1, f2, f3⟩ := rdDeed_fit S
      obtain ⟨d, hd⟩ : ∃ d, d = rdDeed S := ⟨_, rfl⟩
      have HD := Lib.hid hd
      rw [← hd] at f1 f2 f3
      have HF := Lib.hid (show d.fit ∧ d.f.length ≤ 31 ∧ d.keep.length ≤ 40 from ⟨f1, f2, f3⟩)
      have hll : l.length ≤ 400 := by have := HLN.out; omega
      clear r1 r2 R hn f1 f2 f3
      go_wp2_with (fail)
      refine (c_script_read (some g) S _ (HT.out.below D.out.below) D.out.rd).mono ?_
      rintro e w3 ⟨q, rfl, of3, ok3, hr3, hk3⟩
      rw [← hd] at of3 ok3 ⊢
      rw [← hS'] at hr3
      have D3 := Lib.hid (D.out.call hr3 hk3)
      have hbw := D.out.hB
      obtain ⟨x, hx⟩ : ∃ x : DQ, x = ⟨d, q, HF.out.1.wf⟩ := ⟨_, rfl⟩
      have OX := Lib.hid (show OwnD w3 B x by rw [hx]; exact ⟨own_base of3 hbw, own_base ok3 hbw⟩)
      have HXO := Lib.hid (show x.o = d by rw [hx])
      have hxa : (.agg (d.arr q) : Value) = .agg (x.o.arr x.q) := by rw [hx]
      rw [hxa]
      clear hr3 hk3 of3 ok3 D hd hS' hxa hx hbw
      go_wp2_with (with_reducible refine stop_lit 23 _ rfl ?_)
      refine Stop.mk (wpList_lit1 rfl _ _ _ rfl elemOp (by omega) _ rfl (Deed.arr_size x.wf) ?_)
      have hb4 : Below w3.heap.size w3 (w3.alloc (.cells (x.o.arr x.q) 45)) := (Below.refl _ _).alloc (Nat.le_refl _) _
      have D4 := Lib.hid (D3.out.step hb4)
      have OX4 := Lib.hid (OX.out.below hb4)
      have SRC := Lib.hid (show Src (w3.alloc (.cells (x.o.arr x.q) 45)) (some ⟨w3.heap.size, 0, none⟩) 1 63 x.cells by have := Src.new w3 x.cells 45 63 x.cells_len; unfold DQ.cells at this ⊢; simpa using this)
      clear hb4 D3 OX
      go_wp2_with ((at_builtin; refine Stop.out ?_))
      refine Stop.mk (wpList_app _ rfl _ _ elemOp rfl B (.slice A l.length c) l.length _ rfl D4.out.own _ 1 1 x.cells rfl SRC.out x.one (by omega) D4.out.hB ?_)
      intro v7 w7 own7 hgr hb7 _
      obtain ⟨A7, c7, rfl, -⟩ := own_form own7
      have hgb : w.heap.size ≤ B := by have := D4.out.hg; have := D4.out.gB; omega
      have D7 := Lib.hid (show DS w w7 g B S' A7 c7 (l ++ [x]) from
        ⟨D4.out.below.trans (hb7.mono hgb), D4.out.rd.up hb7 (fun y hy => by injection hy with hy; have := D4.out.gB; omega), Nat.le_trans D4.out.hB hb7.size,
          by rw [cells_flat, List.length_append, List.length_singleton]; exact own7,
          fun y hy => by
            rcases List.mem_append.1 hy with hy | hy
            · exact (D4.out.each y hy).app D4.out.own hgr
            · rw [List.mem_singleton.1 hy]; exact OX4.out.app D4.out.own hgr,
          fun y hy => by
            rcases List.mem_append.1 hy with hy | hy
            · exact D4.out.small y hy
            · rw [List.mem_singleton.1 hy, HXO.out]; exact HF.out,
          D4.out.hg, D4.out.gB⟩)
      have HL7 := Lib.hid (show (l ++ [x]).length = k + 1 by rw [List.length_append, List.length_singleton, HLN.out])
      have HD7 := Lib.hid (show deeds (l ++ [x]) = deeds l ++ [rdDeed S] by rw [deeds_snoc, HXO.out, HD.out])
      obtain ⟨l7, hl7⟩ : ∃ y, y = l ++ [x] := ⟨_, rfl⟩
      have hv7 : (.slice A7 (l.length + 1) c7 : Value) = .slice A7 l7.length c7 := by rw [hl7, List.length_append, List.length_singleton]
      rw [hv7]
      rw [← hl7] at D7 HL7 HD7
      have hl7n : l7.length ≤ 401 := by have := HL7.out; omega
      clear own7 hgr hb7 hl7 hv7 D4 OX4 SRC hgb
      go_wp2_with (fail)
      refine (c_octet_Err' (some g) S' _ D7.out.rd).mono ?_
      rintro e w8 ⟨rfl, hb8⟩
      have D8 := Lib.hid (D7.out.step hb8)
      clear hb8 D7
      by_cases he : S'.e = 0
      · have j1 : (S'.e != 0) = false := by simpa using he
        obtain ⟨g1, g2⟩ := rdDeeds_go (n := n) HS.out he
        have RR := Lib.hid (show deeds l7 ++ rdDeeds (N - (k + 1)) S' = scL s ∧ rdDeeds' (N - (k + 1)) S' = scS s by
          rw [hn2.out, HD7.out]
          have e1 := R1.out
          have e2 := R2.out
          rw [g2] at e1
          rw [g1] at e2
          exact ⟨by rw [← e1]; simp, e2⟩)
        clear he g1 g2
        go_wp2_with (fail)
        go_roundw
        case rel => exact ⟨k + 1, A7, c7, l7, S', by omega, by go_num, rfl, HL7.out, D8.out, RR.out⟩
        case measure => simp [intOf]; omega
      · have j1 : (S'.e != 0) = true := by simpa using he
        have hE := (rdDeeds_brk (n := n) HS.out he).symm.trans R2.out
        have HE := Lib.hid (show rdEnd S' = rdScriptE s by unfold rdScriptE; rw [← hE])
        have j2 : (rdEnd S' != 0) = true := by rw [rdEnd_bad he]; simpa using he
        have HB := Lib.hid (rdScript_bad (s := s) (by rw [← HE.out, rdEnd_bad he]; exact he))
        clear he hE
        go_wp2_with (fail)
        refine (c_octet_End (some g) S' _ D8.out.rd).mono ?_
        rintro e w9 ⟨rfl, hb9⟩
        have D9 := Lib.hid (D8.out.step hb9)
        clear hb9 D8
        go_wp2_with (fail)
        go_ret2
        exact ⟨none, 0, [], by rw [← HE.out]; rfl, InQ.nil _, by rw [HB.out]; rfl, D9.out.below⟩
    · obtain rfl : k = N := by omega
      have d1 : decide ((k : Int) < (k : Int)) = false := by simp
      obtain ⟨r1, r2⟩ := R.out
      rw [Nat.sub_self] at r1 r2
      have hll : l.length ≤ 400 := by have := HLN.out; omega
      have HE := Lib.hid (show rdEnd S = rdScriptE s by unfold rdScriptE; rw [← r2]; rfl)
      have HL := Lib.hid (show deeds l = scL s by rw [← r1]; simp [rdDeeds])
      clear r1 r2 R hlt
      go_wp2_with (fail)
      refine (c_octet_End (some g) S _ D.out.rd).mono ?_
      rintro e w9 ⟨rfl, hb9⟩
      have D9 := Lib.hid (D.out.step hb9)
      clear hb9 D
      by_cases he : rdEnd S = 0
      · have j2 : (rdEnd S != 0) = false := by simpa using he
        have HB := Lib.hid (rdScript_good (s := s) (by rw [← HE.out]; exact he))
        have H0 := Lib.hid he
        clear he
        go_wp2_with (fail)
        go_ret2
        exact ⟨A, c, l, by rw [← HE.out, H0.out]; rfl, D9.out.inQ hll, by rw [HB.out, HL.out], D9.out.below⟩
      · have j2 : (rdEnd S != 0) = true := by simpa using he
        have HB := Lib.hid (rdScript_bad (s := s) (by rw [← HE.out]; exact he))
        clear he
        go_wp2_with (fail)
        go_ret2
        exact ⟨none, 0, [], by rw [← HE.out]; rfl, InQ.nil _, by rw [HB.out]; rfl, D9.out.below⟩
end Go.Proofs.YtiedkcijjfmhaaaGreatDoor
namespace Go.Proofs.YtiedkcijjfmhaaaGreatDoor
open Go.RowKit

set_option maxHeartbeats 40000000 in
set_option maxRecDepth 10000 in
theorem ref47_read_Z (p : Nat) (st : Rd) (w : World) (hr : RdR w p st) (hk0 : ddK st = 0) : Calls Tryz.prog 15 #[.pointer (some ⟨p, 0, none⟩)] w (RetRD p (rdDeed' st) w (rdDeed st)) := by
  have x2 := dd_z hk0
  obtain ⟨x1, -⟩ := dd_0 hk0
  obtain ⟨K, hK⟩ : ∃ K, K = ddK st := ⟨_, rfl⟩
  rw [← hK] at hk0
  have FN : dN K = false := by unfold dN; simp; omega
  have FD : dD K = false := by unfold dD; simp; omega
  have j1 : (K == 1) = false := by simp; omega
  have j3 : (K == 3) = false := by simp; omega
  have j5 : (K == 5) = false := by simp; omega
  have j11 : (K == 11) = false := by simp; omega
  have j12 : (K == 12) = false := by simp; omega
  have X1 := Lib.hid x1
  have X2 := Lib.hid (show rdDeed st = { dz with kind := K } by rw [x2, hk0])
  have HK := Lib.hid (show rdN st 12 = K from hK.symm)
  have HRD := Lib.hid hr
  clear x1 hk0 hr hK x2 
  go_enter Tryz.func15, Tryz.ntmps15
  go_wp2_with (with_reducible refine stop_callS _ rfl ?_)
  refine Stop.mk (EnvR.goZ HRD.out ?_)
  intro w00 he00 hz00
  have E := Lib.hid he00
  clear he00
  go_wp2_with (fail)
  refine (c_ref19_Above p st 12 _ E.out.rd).mono ?_
  rintro e w6 ⟨rfl, hr6, hk6⟩
  rw [HK.out]
  have hz6 := hk6.size
  replace E := Lib.hid ((E.out.call hr6 hk6).state (show _ = ddA st from rfl))
  clear hr6 hk6
  go_wp2_with (with_reducible refine stop_build 55 _ rfl ?_)
  refine Stop.mk (wpList_buildD rfl _ _ rfl [(0, .int .i64 K)] (by rfl) (Deed.arr { dz with kind := K } wz) (builtR_kind K) ?_)
  go_wp2_with (with_reducible refine stS 55 (.tmp 3) (.tmp 8) rfl rfl ?_)
  refine Stop.mk (wsB rfl _ _ _ rfl w6.heap.size _ (by first | rfl | simp) rfl _ (Blk.new _ _ _) strOpR (Deed.arr_size ⟨rfl, rfl⟩) (by rw [Deed.arr_size ⟨rfl, rfl⟩]; rfl) (Deed.arr_ones ⟨rfl, rfl⟩) ?_)
  intro w7 hb7 hk7
  replace E := Lib.hid ((E.out.alloc 55 _).put0 hb7 hk7)
  obtain ⟨G, hG⟩ : ∃ g, g = w6.heap.size := ⟨_, rfl⟩
  have HG := Lib.hid (show w.heap.size < G by omega)
  rw [← hG] at E ⊢
  clear hb7 hk7 hG hz6 hz00
  have hw := Lib.hid (show Deed.wf { dz with kind := K } from ⟨rfl, rfl⟩)
  obtain ⟨p0, p1, p2, p3, p4, p5, p6, p7⟩ := dcs hw.out E.out.b0
  have ff := fun i => E.out.b0.frozen i
  have hlt := E.out.b0.lt
  go_wp2_with (fail)
  clear p0 p1 p2 p3 p4 p5 p6 p7 ff hlt
  refine (c_ref47_number K _).mono ?_
  rintro e w9 ⟨rfl, hb9⟩
  rw [FN]
  replace E := Lib.hid (E.out.below hb9)
  clear hb9
  obtain ⟨p0, p1, p2, p3, p4, p5, p6, p7⟩ := dcs hw.out E.out.b0
  have ff := fun i => E.out.b0.frozen i
  have hlt := E.out.b0.lt
  go_wp2_with (fail)
  clear p0 p1 p2 p3 p4 p5 p6 p7 ff hlt
  refine (c_ref47_device K _).mono ?_
  rintro e w9 ⟨rfl, hb9⟩
  rw [FD]
  replace E := Lib.hid (E.out.below hb9)
  clear hb9
  obtain ⟨p0, p1, p2, p3, p4, p5, p6, p7⟩ := dcs hw.out E.out.b0
  have ff := fun i => E.out.b0.frozen i
  have hlt := E.out.b0.lt
  go_wp2_with (with_reducible refine stop_load 55 (.tmp 3) rfl rfl ?_)
  clear p0 p1 p2 p3 p4 p5 p6 p7 ff hlt
  refine Stop.mk (wpList_loadB rfl _ _ rfl G rfl _ E.out.b0 strOpR (Deed.arr_size hw.out) ?_)
  go_wp2_with (with_reducible refine stS 55 (.tmp 2) (.tmp 74) rfl rfl ?_)
  refine Stop.mk (wsB rfl _ _ _ rfl w.heap.size _ rfl rfl _ E.out.b1 strOpR (Deed.arr_size hw.out) (by rw [Deed.arr_size hw.out]; rfl) (Deed.arr_ones hw.out) ?_)
  intro w99 hb99 hk99
  replace E := Lib.hid ((E.out.put1 hb99 hk99).state (show _ = rdDeed' st by rw [X1.out]))
  clear hk99
  go_wp2_with (fail)
  exact bodyPost_ret (results_B rfl rfl hb99 strOpR (Deed.arr_size hw.out)) rfl ⟨{ dz with kind := K }, wz, rfl, fun _ => X2.out.symm, hw.out, by simp, by simp, World.ownsRow_nil _ _ _ _, World.ownsRow_nil _ _ _ _, E.out.rd, E.out.kept⟩
set_option maxHeartbeats 40000000 in
set_option maxRecDepth 10000 in
theorem ref47_read_N (p : Nat) (st : Rd) (w : World) (hr : RdR w p st) (hk0 : ddK st = 2 ∨ ddK st = 7 ∨ ddK st = 8 ∨ ddK st = 9 ∨ ddK st = 10) : Calls Tryz.prog 15 #[.pointer (some ⟨p, 0, none⟩)] w (RetRD p (rdDeed' st) w (rdDeed st)) := by
  obtain ⟨x1, x2⟩ := dd_N (st := st) (by unfold dN; simp; omega)
  obtain ⟨K, hK⟩ : ∃ K, K = ddK st := ⟨_, rfl⟩
  obtain ⟨D, hD⟩ : ∃ D, D = rdN (ddA st) 1099511627776 := ⟨_, rfl⟩
  have HD := Lib.hid hD
  rw [← hK] at hk0
  have FN : dN K = true := by unfold dN; simp; omega
  have FD : dD K = false := by unfold dD; simp; omega
  have j1 : (K == 1) = false := by simp; omega
  have j3 : (K == 3) = false := by simp; omega
  have j5 : (K == 5) = false := by simp; omega
  have j11 : (K == 11) = false := by simp; omega
  have j12 : (K == 12) = false := by simp; omega
  have X1 := Lib.hid x1
  have X2 := Lib.hid (show rdDeed st = { dz with kind := K, n := D } by rw [x2, hK, hD])
  have HK := Lib.hid (show rdN st 12 = K from hK.symm)
  have HRD := Lib.hid hr
  clear x1 hk0 hr hK x2 hD
  go_enter Tryz.func15, Tryz.ntmps15
  go_wp2_with (with_reducible refine stop_callS _ rfl ?_)
  refine Stop.mk (EnvR.goZ HRD.out ?_)
  intro w00 he00 hz00
  have E := Lib.hid he00
  clear he00
  go_wp2_with (fail)
  refine (c_ref19_Above p st 12 _ E.out.rd).mono ?_
  rintro e w6 ⟨rfl, hr6, hk6⟩
  rw [HK.out]
  have hz6 := hk6.size
  replace E := Lib.hid ((E.out.call hr6 hk6).state (show _ = ddA st from rfl))
  clear hr6 hk6
  go_wp2_with (with_reducible refine stop_build 55 _ rfl ?_)
  refine Stop.mk (wpList_buildD rfl _ _ rfl [(0, .int .i64 K)] (by rfl) (Deed.arr { dz with kind := K } wz) (builtR_kind K) ?_)
  go_wp2_with (with_reducible refine stS 55 (.tmp 3) (.tmp 8) rfl rfl ?_)
  refine Stop.mk (wsB rfl _ _ _ rfl w6.heap.size _ (by first | rfl | simp) rfl _ (Blk.new _ _ _) strOpR (Deed.arr_size ⟨rfl, rfl⟩) (by rw [Deed.arr_size ⟨rfl, rfl⟩]; rfl) (Deed.arr_ones ⟨rfl, rfl⟩) ?_)
  intro w7 hb7 hk7
  replace E := Lib.hid ((E.out.alloc 55 _).put0 hb7 hk7)
  obtain ⟨G, hG⟩ : ∃ g, g = w6.heap.size := ⟨_, rfl⟩
  have HG := Lib.hid (show w.heap.size < G by omega)
  rw [← hG] at E ⊢
  clear hb7 hk7 hG hz6 hz00
  have hw := Lib.hid (show Deed.wf { dz with kind := K } from ⟨rfl, rfl⟩)
  obtain ⟨p0, p1, p2, p3, p4, p5, p6, p7⟩ := dcs hw.out E.out.b0
  have ff := fun i => E.out.b0.frozen i
  have hlt := E.out.b0.lt
  go_wp2_with (fail)
  clear p0 p1 p2 p3 p4 p5 p6 p7 ff hlt
  refine (c_ref47_number K _).mono ?_
  rintro e w9 ⟨rfl, hb9⟩
  rw [FN]
  replace E := Lib.hid (E.out.below hb9)
  clear hb9
  go_wp2_with (fail)
  refine (c_ref01_RNum p _ 1099511627776 _ E.out.rd).mono ?_
  rintro e w9 ⟨rfl, hr9, hk9⟩
  rw [← HD.out]
  replace E := Lib.hid ((E.out.call hr9 hk9).state (show _ = rdN' (ddA st) 1099511627776 from rfl))
  clear hr9 hk9
  obtain ⟨p0, p1, p2, p3, p4, p5, p6, p7⟩ := dcs hw.out E.out.b0
  have ff := fun i => E.out.b0.frozen i
  have hlt := E.out.b0.lt
  go_wp2_with (fail)
  clear p0 p1 p2 p3 p4 p5 p6 p7 ff hlt
  replace E := Lib.hid ((E.out.store0 1 (.int .i64 D)).as (show _ = Deed.arr { dz with kind := K, n := D } wz from by have := Deed.setI hw.out (q := wz) 1 (by omega) D; simpa using this))
  replace hw := Lib.hid (show Deed.wf { dz with kind := K, n := D } from ⟨hw.out.e, hw.out.p⟩)
  refine (c_ref47_device K _).mono ?_
  rintro e w9 ⟨rfl, hb9⟩
  rw [FD]
  replace E := Lib.hid (E.out.below hb9)
  clear hb9
  obtain ⟨p0, p1, p2, p3, p4, p5, p6, p7⟩ := dcs hw.out E.out.b0
  have ff := fun i => E.out.b0.frozen i
  have hlt := E.out.b0.lt
  go_wp2_with (with_reducible refine stop_load 55 (.tmp 3) rfl rfl ?_)
  clear p0 p1 p2 p3 p4 p5 p6 p7 ff hlt
  refine Stop.mk (wpList_loadB rfl _ _ rfl G rfl _ E.out.b0 strOpR (Deed.arr_size hw.out) ?_)
  go_wp2_with (with_reducible refine stS 55 (.tmp 2) (.tmp 74) rfl rfl ?_)
  refine Stop.mk (wsB rfl _ _ _ rfl w.heap.size _ rfl rfl _ E.out.b1 strOpR (Deed.arr_size hw.out) (by rw [Deed.arr_size hw.out]; rfl) (Deed.arr_ones hw.out) ?_)
  intro w99 hb99 hk99
  replace E := Lib.hid ((E.out.put1 hb99 hk99).state (show _ = rdDeed' st by rw [X1.out]))
  clear hk99
  go_wp2_with (fail)
  exact bodyPost_ret (results_B rfl rfl hb99 strOpR (Deed.arr_size hw.out)) rfl ⟨{ dz with kind := K, n := D }, wz, rfl, fun _ => X2.out.symm, hw.out, by simp, by simp, World.ownsRow_nil _ _ _ _, World.ownsRow_nil _ _ _ _, E.out.rd, E.out.kept⟩
set_option maxHeartbeats 40000000 in
set_option maxRecDepth 10000 in
theorem ref47_read_D (p : Nat) (st : Rd) (w : World) (hr : RdR w p st) (hk0 : ddK st = 4 ∨ ddK st = 6) : Calls Tryz.prog 15 #[.pointer (some ⟨p, 0, none⟩)] w (RetRD p (rdDeed' st) w (rdDeed st)) := by
  obtain ⟨x1, x2⟩ := dd_D hk0
  obtain ⟨K, hK⟩ : ∃ K, K = ddK st := ⟨_, rfl⟩
  obtain ⟨D, hD⟩ : ∃ D, D = rdN (ddA st) 5 := ⟨_, rfl⟩
  have HD := Lib.hid hD
  rw [← hK] at hk0
  have FN : dN K = false := by unfold dN; simp; omega
  have FD : dD K = true := by unfold dD; simp; omega
  have j1 : (K == 1) = false := by simp; omega
  have j3 : (K == 3) = false := by simp; omega
  have j5 : (K == 5) = false := by simp; omega
  have j11 : (K == 11) = false := by simp; omega
  have j12 : (K == 12) = false := by simp; omega
  have X1 := Lib.hid x1
  have X2 := Lib.hid (show rdDeed st = { dz with kind := K, dev := D } by rw [x2, hK, hD])
  have HK := Lib.hid (show rdN st 12 = K from hK.symm)
  have HRD := Lib.hid hr
  clear x1 hk0 hr hK x2 hD
  go_enter Tryz.func15, Tryz.ntmps15
  go_wp2_with (with_reducible refine stop_callS _ rfl ?_)
  refine Stop.mk (EnvR.goZ HRD.out ?_)
  intro w00 he00 hz00
  have E := Lib.hid he00
  clear he00
  go_wp2_with (fail)
  refine (c_ref19_Above p st 12 _ E.out.rd).mono ?_
  rintro e w6 ⟨rfl, hr6, hk6⟩
  rw [HK.out]
  have hz6 := hk6.size
  replace E := Lib.hid ((E.out.call hr6 hk6).state (show _ = ddA st from rfl))
  clear hr6 hk6
  go_wp2_with (with_reducible refine stop_build 55 _ rfl ?_)
  refine Stop.mk (wpList_buildD rfl _ _ rfl [(0, .int .i64 K)] (by rfl) (Deed.arr { dz with kind := K } wz) (builtR_kind K) ?_)
  go_wp2_with (with_reducible refine stS 55 (.tmp 3) (.tmp 8) rfl rfl ?_)
  refine Stop.mk (wsB rfl _ _ _ rfl w6.heap.size _ (by first | rfl | simp) rfl _ (Blk.new _ _ _) strOpR (Deed.arr_size ⟨rfl, rfl⟩) (by rw [Deed.arr_size ⟨rfl, rfl⟩]; rfl) (Deed.arr_ones ⟨rfl, rfl⟩) ?_)
  intro w7 hb7 hk7
  replace E := Lib.hid ((E.out.alloc 55 _).put0 hb7 hk7)
  obtain ⟨G, hG⟩ : ∃ g, g = w6.heap.size := ⟨_, rfl⟩
  have HG := Lib.hid (show w.heap.size < G by omega)
  rw [← hG] at E ⊢
  clear hb7 hk7 hG hz6 hz00
  have hw := Lib.hid (show Deed.wf { dz with kind := K } from ⟨rfl, rfl⟩)
  obtain ⟨p0, p1, p2, p3, p4, p5, p6, p7⟩ := dcs hw.out E.out.b0
  have ff := fun i => E.out.b0.frozen i
  have hlt := E.out.b0.lt
  go_wp2_with (fail)
  clear p0 p1 p2 p3 p4 p5 p6 p7 ff hlt
  refine (c_ref47_number K _).mono ?_
  rintro e w9 ⟨rfl, hb9⟩
  rw [FN]
  replace E := Lib.hid (E.out.below hb9)
  clear hb9
  obtain ⟨p0, p1, p2, p3, p4, p5, p6, p7⟩ := dcs hw.out E.out.b0
  have ff := fun i => E.out.b0.frozen i
  have hlt := E.out.b0.lt
  go_wp2_with (fail)
  clear p0 p1 p2 p3 p4 p5 p6 p7 ff hlt
  refine (c_ref47_device K _).mono ?_
  rintro e w9 ⟨rfl, hb9⟩
  rw [FD]
  replace E := Lib.hid (E.out.below hb9)
  clear hb9
  go_wp2_with (fail)
  refine (c_ref01_RNum p _ 5 _ E.out.rd).mono ?_
  rintro e w9 ⟨rfl, hr9, hk9⟩
  rw [← HD.out]
  replace E := Lib.hid ((E.out.call hr9 hk9).state (show _ = ddB st from rfl))
  clear hr9 hk9
  obtain ⟨p0, p1, p2, p3, p4, p5, p6, p7⟩ := dcs hw.out E.out.b0
  have ff := fun i => E.out.b0.frozen i
  have hlt := E.out.b0.lt
  go_wp2_with (with_reducible refine stop_load 55 (.tmp 3) rfl rfl ?_)
  clear p0 p1 p2 p3 p4 p5 p6 p7 ff hlt
  replace E := Lib.hid ((E.out.store0 2 (.int .i64 D)).as (show _ = Deed.arr { dz with kind := K, dev := D } wz from by have := Deed.setI hw.out (q := wz) 2 (by omega) D; simpa using this))
  replace hw := Lib.hid (show Deed.wf { dz with kind := K, dev := D } from ⟨hw.out.e, hw.out.p⟩)
  refine Stop.mk (wpList_loadB rfl _ _ rfl G rfl _ E.out.b0 strOpR (Deed.arr_size hw.out) ?_)
  go_wp2_with (with_reducible refine stS 55 (.tmp 2) (.tmp 74) rfl rfl ?_)
  refine Stop.mk (wsB rfl _ _ _ rfl w.heap.size _ rfl rfl _ E.out.b1 strOpR (Deed.arr_size hw.out) (by rw [Deed.arr_size hw.out]; rfl) (Deed.arr_ones hw.out) ?_)
  intro w99 hb99 hk99
  replace E := Lib.hid ((E.out.put1 hb99 hk99).state (show _ = rdDeed' st by rw [X1.out]))
  clear hk99
  go_wp2_with (fail)
  exact bodyPost_ret (results_B rfl rfl hb99 strOpR (Deed.arr_size hw.out)) rfl ⟨{ dz with kind := K, dev := D }, wz, rfl, fun _ => X2.out.symm, hw.out, by simp, by simp, World.ownsRow_nil _ _ _ _, World.ownsRow_nil _ _ _ _, E.out.rd, E.out.kept⟩
set_option maxHeartbeats 40000000 in
set_option maxRecDepth 10000 in
theorem ref47_read_T (p : Nat) (st : Rd) (w : World) (hr : RdR w p st) (hk0 : ddK st = 12) : Calls Tryz.prog 15 #[.pointer (some ⟨p, 0, none⟩)] w (RetRD p (rdDeed' st) w (rdDeed st)) := by
  obtain ⟨x1, x2⟩ := dd_12 hk0
  obtain ⟨K, hK⟩ : ∃ K, K = ddK st := ⟨_, rfl⟩
  obtain ⟨D, hD⟩ : ∃ D, D = rdS (ddA st) 4096 := ⟨_, rfl⟩
  have HD := Lib.hid hD
  rw [← hK] at hk0
  have FN : dN K = false := by unfold dN; simp; omega
  have FD : dD K = false := by unfold dD; simp; omega
  have j1 : (K == 1) = false := by simp; omega
  have j3 : (K == 3) = false := by simp; omega
  have j5 : (K == 5) = false := by simp; omega
  have j11 : (K == 11) = false := by simp; omega
  have j12 : (K == 12) = true := by simp; omega
  have X1 := Lib.hid x1
  have X2 := Lib.hid (show rdDeed st = { dz with kind := K, text := D } by rw [x2, hk0, hD])
  have HK := Lib.hid (show rdN st 12 = K from hK.symm)
  have HRD := Lib.hid hr
  clear x1 hk0 hr hK x2 hD
  go_enter Tryz.func15, Tryz.ntmps15
  go_wp2_with (with_reducible refine stop_callS _ rfl ?_)
  refine Stop.mk (EnvR.goZ HRD.out ?_)
  intro w00 he00 hz00
  have E := Lib.hid he00
  clear he00
  go_wp2_with (fail)
  refine (c_ref19_Above p st 12 _ E.out.rd).mono ?_
  rintro e w6 ⟨rfl, hr6, hk6⟩
  rw [HK.out]
  have hz6 := hk6.size
  replace E := Lib.hid ((E.out.call hr6 hk6).state (show _ = ddA st from rfl))
  clear hr6 hk6
  go_wp2_with (with_reducible refine stop_build 55 _ rfl ?_)
  refine Stop.mk (wpList_buildD rfl _ _ rfl [(0, .int .i64 K)] (by rfl) (Deed.arr { dz with kind := K } wz) (builtR_kind K) ?_)
  go_wp2_with (with_reducible refine stS 55 (.tmp 3) (.tmp 8) rfl rfl ?_)
  refine Stop.mk (wsB rfl _ _ _ rfl w6.heap.size _ (by first | rfl | simp) rfl _ (Blk.new _ _ _) strOpR (Deed.arr_size ⟨rfl, rfl⟩) (by rw [Deed.arr_size ⟨rfl, rfl⟩]; rfl) (Deed.arr_ones ⟨rfl, rfl⟩) ?_)
  intro w7 hb7 hk7
  replace E := Lib.hid ((E.out.alloc 55 _).put0 hb7 hk7)
  obtain ⟨G, hG⟩ : ∃ g, g = w6.heap.size := ⟨_, rfl⟩
  have HG := Lib.hid (show w.heap.size < G by omega)
  rw [← hG] at E ⊢
  clear hb7 hk7 hG hz6 hz00
  have hw := Lib.hid (show Deed.wf { dz with kind := K } from ⟨rfl, rfl⟩)
  obtain ⟨p0, p1, p2, p3, p4, p5, p6, p7⟩ := dcs hw.out E.out.b0
  have ff := fun i => E.out.b0.frozen i
  have hlt := E.out.b0.lt
  go_wp2_with (fail)
  clear p0 p1 p2 p3 p4 p5 p6 p7 ff hlt
  refine (c_ref47_number K _).mono ?_
  rintro e w9 ⟨rfl, hb9⟩
  rw [FN]
  replace E := Lib.hid (E.out.below hb9)
  clear hb9
  obtain ⟨p0, p1, p2, p3, p4, p5, p6, p7⟩ := dcs hw.out E.out.b0
  have ff := fun i => E.out.b0.frozen i
  have hlt := E.out.b0.lt
  go_wp2_with (fail)
  clear p0 p1 p2 p3 p4 p5 p6 p7 ff hlt
  refine (c_ref47_device K _).mono ?_
  rintro e w9 ⟨rfl, hb9⟩
  rw [FD]
  replace E := Lib.hid (E.out.below hb9)
  clear hb9
  obtain ⟨p0, p1, p2, p3, p4, p5, p6, p7⟩ := dcs hw.out E.out.b0
  have ff := fun i => E.out.b0.frozen i
  have hlt := E.out.b0.lt
  go_wp2_with (fail)
  clear p0 p1 p2 p3 p4 p5 p6 p7 ff hlt
  refine (c_ref01_RStr p _ 4096 _ E.out.rd).mono ?_
  rintro e w9 ⟨rfl, hr9, hk9⟩
  rw [← HD.out]
  replace E := Lib.hid ((E.out.call hr9 hk9).state (show _ = rdS' (ddA st) 4096 from rfl))
  clear hr9 hk9
  obtain ⟨p0, p1, p2, p3, p4, p5, p6, p7⟩ := dcs hw.out E.out.b0
  have ff := fun i => E.out.b0.frozen i
  have hlt := E.out.b0.lt
  go_wp2_with (with_reducible refine stop_load 55 (.tmp 3) rfl rfl ?_)
  clear p0 p1 p2 p3 p4 p5 p6 p7 ff hlt
  replace E := Lib.hid ((E.out.store0 62 (.string (str D))).as (show _ = Deed.arr { dz with kind := K, text := D } wz from by exact Deed.setT hw.out D))
  replace hw := Lib.hid (show Deed.wf { dz with kind := K, text := D } from ⟨hw.out.e, hw.out.p⟩)
  refine Stop.mk (wpList_loadB rfl _ _ rfl G rfl _ E.out.b0 strOpR (Deed.arr_size hw.out) ?_)
  go_wp2_with (with_reducible refine stS 55 (.tmp 2) (.tmp 74) rfl rfl ?_)
  refine Stop.mk (wsB rfl _ _ _ rfl w.heap.size _ rfl rfl _ E.out.b1 strOpR (Deed.arr_size hw.out) (by rw [Deed.arr_size hw.out]; rfl) (Deed.arr_ones hw.out) ?_)
  intro w99 hb99 hk99
  replace E := Lib.hid ((E.out.put1 hb99 hk99).state (show _ = rdDeed' st by rw [X1.out]))
  clear hk99
  go_wp2_with (fail)
  exact bodyPost_ret (results_B rfl rfl hb99 strOpR (Deed.arr_size hw.out)) rfl ⟨{ dz with kind := K, text := D }, wz, rfl, fun _ => X2.out.symm, hw.out, by simp, by simp, World.ownsRow_nil _ _ _ _, World.ownsRow_nil _ _ _ _, E.out.rd, E.out.kept⟩
end Go.Proofs.YtiedkcijjfmhaaaGreatDoor
namespace Go.Proofs.YtiedkcijjfmhaaaGreatDoor
open Go.RowKit

set_option maxHeartbeats 40000000 in
set_option maxRecDepth 10000 in
theorem ref47_read_E (p : Nat) (st : Rd) (w : World) (hr : RdR w p st) (hk0 : ddK st = 1) : Calls Tryz.prog 15 #[.pointer (some ⟨p, 0, none⟩)] w (RetRD p (rdDeed' st) w (rdDeed st)) := by
  obtain ⟨x1, x2⟩ := dd_1 hk0
  obtain ⟨K, hK⟩ : ∃ K, K = ddK st := ⟨_, rfl⟩
  obtain ⟨D, hD⟩ : ∃ D, D = rdEdit (ddA st) := ⟨_, rfl⟩
  have HD := Lib.hid hD
  rw [← hK] at hk0
  have FN : dN K = false := by unfold dN; simp; omega
  have FD : dD K = false := by unfold dD; simp; omega
  have j1 : (K == 1) = true := by simp; omega
  have j3 : (K == 3) = false := by simp; omega
  have j5 : (K == 5) = false := by simp; omega
  have j11 : (K == 11) = false := by simp; omega
  have j12 : (K == 12) = false := by simp; omega
  have X1 := Lib.hid x1
  have X2 := Lib.hid (show rdDeed st = { dz with kind := K, e := D } by rw [x2, hk0, hD])
  have HK := Lib.hid (show rdN st 12 = K from hK.symm)
  have HRD := Lib.hid hr
  have HL := Lib.hid (show D.p.f.length = 8 by rw [hD]; exact rdEdit_len _)
  clear x1 hk0 hr hK x2 hD
  go_enter Tryz.func15, Tryz.ntmps15
  go_wp2_with (with_reducible refine stop_callS _ rfl ?_)
  refine Stop.mk (EnvR.goZ HRD.out ?_)
  intro w00 he00 hz00
  have E := Lib.hid he00
  clear he00
  go_wp2_with (fail)
  refine (c_ref19_Above p st 12 _ E.out.rd).mono ?_
  rintro e w6 ⟨rfl, hr6, hk6⟩
  rw [HK.out]
  have hz6 := hk6.size
  replace E := Lib.hid ((E.out.call hr6 hk6).state (show _ = ddA st from rfl))
  clear hr6 hk6
  go_wp2_with (with_reducible refine stop_build 55 _ rfl ?_)
  refine Stop.mk (wpList_buildD rfl _ _ rfl [(0, .int .i64 K)] (by rfl) (Deed.arr { dz with kind := K } wz) (builtR_kind K) ?_)
  go_wp2_with (with_reducible refine stS 55 (.tmp 3) (.tmp 8) rfl rfl ?_)
  refine Stop.mk (wsB rfl _ _ _ rfl w6.heap.size _ (by first | rfl | simp) rfl _ (Blk.new _ _ _) strOpR (Deed.arr_size ⟨rfl, rfl⟩) (by rw [Deed.arr_size ⟨rfl, rfl⟩]; rfl) (Deed.arr_ones ⟨rfl, rfl⟩) ?_)
  intro w7 hb7 hk7
  replace E := Lib.hid ((E.out.alloc 55 _).put0 hb7 hk7)
  obtain ⟨G, hG⟩ : ∃ g, g = w6.heap.size := ⟨_, rfl⟩
  have HG := Lib.hid (show w.heap.size < G by omega)
  rw [← hG] at E ⊢
  clear hb7 hk7 hG hz6 hz00
  have hw := Lib.hid (show Deed.wf { dz with kind := K } from ⟨rfl, rfl⟩)
  obtain ⟨p0, p1, p2, p3, p4, p5, p6, p7⟩ := dcs hw.out E.out.b0
  have ff := fun i => E.out.b0.frozen i
  have hlt := E.out.b0.lt
  go_wp2_with (fail)
  clear p0 p1 p2 p3 p4 p5 p6 p7 ff hlt
  refine (c_ref19_Read p _ _ E.out.rd).mono ?_
  rintro e w9 ⟨rfl, hr9, hk9⟩
  rw [← HD.out]
  replace E := Lib.hid ((E.out.call hr9 hk9).state (show _ = rdEdit' (ddA st) from rfl))
  clear hr9 hk9
  go_wp2_with (with_reducible refine stS 41 (.tmp 14) (.tmp 13) rfl rfl ?_)
  refine Stop.mk (wpList_storeAt rfl _ _ _ rfl G 4 D.arr rfl rfl _ E.out.b0 strE (Edit.sizeE HL.out) (by rw [Edit.sizeE HL.out, Deed.arr_size hw.out]; decide) (Edit.arr_one _) ?_)
  intro w20 hb20 hk20
  replace E := Lib.hid (E.out.put0 (show Blk w20 G (Deed.arr { dz with kind := K, e := D } wz) by rw [← Deed.putE hw.out D HL.out]; exact hb20) hk20)
  replace hw := Lib.hid (show Deed.wf { dz with kind := K, e := D } from ⟨HL.out, hw.out.p⟩)
  clear hb20 hk20
  obtain ⟨p0, p1, p2, p3, p4, p5, p6, p7⟩ := dcs hw.out E.out.b0
  have ff := fun i => E.out.b0.frozen i
  have hlt := E.out.b0.lt
  go_wp2_with (fail)
  clear p0 p1 p2 p3 p4 p5 p6 p7 ff hlt
  refine (c_ref47_number K _).mono ?_
  rintro e w9 ⟨rfl, hb9⟩
  rw [FN]
  replace E := Lib.hid (E.out.below hb9)
  clear hb9
  obtain ⟨p0, p1, p2, p3, p4, p5, p6, p7⟩ := dcs hw.out E.out.b0
  have ff := fun i => E.out.b0.frozen i
  have hlt := E.out.b0.lt
  go_wp2_with (fail)
  clear p0 p1 p2 p3 p4 p5 p6 p7 ff hlt
  refine (c_ref47_device K _).mono ?_
  rintro e w9 ⟨rfl, hb9⟩
  rw [FD]
  replace E := Lib.hid (E.out.below hb9)
  clear hb9
  obtain ⟨p0, p1, p2, p3, p4, p5, p6, p7⟩ := dcs hw.out E.out.b0
  have ff := fun i => E.out.b0.frozen i
  have hlt := E.out.b0.lt
  go_wp2_with (with_reducible refine stop_load 55 (.tmp 3) rfl rfl ?_)
  clear p0 p1 p2 p3 p4 p5 p6 p7 ff hlt
  refine Stop.mk (wpList_loadB rfl _ _ rfl G rfl _ E.out.b0 strOpR (Deed.arr_size hw.out) ?_)
  go_wp2_with (with_reducible refine stS 55 (.tmp 2) (.tmp 74) rfl rfl ?_)
  refine Stop.mk (wsB rfl _ _ _ rfl w.heap.size _ rfl rfl _ E.out.b1 strOpR (Deed.arr_size hw.out) (by rw [Deed.arr_size hw.out]; rfl) (Deed.arr_ones hw.out) ?_)
  intro w99 hb99 hk99
  replace E := Lib.hid ((E.out.put1 hb99 hk99).state (show _ = rdDeed' st by rw [X1.out]))
  clear hk99
  go_wp2_with (fail)
  exact bodyPost_ret (results_B rfl rfl hb99 strOpR (Deed.arr_size hw.out)) rfl ⟨{ dz with kind := K, e := D }, wz, rfl, fun _ => X2.out.symm, hw.out, by simp, by simp, World.ownsRow_nil _ _ _ _, World.ownsRow_nil _ _ _ _, E.out.rd, E.out.kept⟩
set_option maxHeartbeats 40000000 in
set_option maxRecDepth 10000 in
theorem ref47_read_F (p : Nat) (st : Rd) (w : World) (hr : RdR w p st) (hk0 : ddK st = 3) : Calls Tryz.prog 15 #[.pointer (some ⟨p, 0, none⟩)] w (RetRD p (rdDeed' st) w (rdDeed st)) := by
  obtain ⟨x1, x2⟩ := dd_3 hk0
  obtain ⟨K, hK⟩ : ∃ K, K = ddK st := ⟨_, rfl⟩
  obtain ⟨D, hD⟩ : ∃ D, D = rdN (ddA st) 5 := ⟨_, rfl⟩
  have HD := Lib.hid hD
  obtain ⟨F, hF⟩ : ∃ D, D = rdPred (ddB st) := ⟨_, rfl⟩
  have HF := Lib.hid hF
  obtain ⟨M, hM⟩ : ∃ D : Nat, (D : Int) = rdN (ddF st) 511 := ⟨(rdN (ddF st) 511).toNat, by have := rdN_bd (ddF st) 511; omega⟩
  have HM := Lib.hid hM
  rw [← hK] at hk0
  have FN : dN K = false := by unfold dN; simp; omega
  have FD : dD K = true := by unfold dD; simp; omega
  have j1 : (K == 1) = false := by simp; omega
  have j3 : (K == 3) = true := by simp; omega
  have j5 : (K == 5) = false := by simp; omega
  have j11 : (K == 11) = false := by simp; omega
  have j12 : (K == 12) = false := by simp; omega
  have X1 := Lib.hid x1
  have X2 := Lib.hid (show rdDeed st = { dz with kind := K, dev := D, f := F, mask := M } by rw [x2, hk0, hD, hF, ← hM, Int.toNat_natCast])
  have HK := Lib.hid (show rdN st 12 = K from hK.symm)
  have HRD := Lib.hid hr
  have hmb := rdN_bd (ddF st) 511
  rw [← hM] at hmb
  have hmi : IntKind.u32.wrap (M : Int) = (M : Int) := by rw [wrap_u32']; omega
  have HFL := Lib.hid (show F.length ≤ 31 by rw [hF]; exact rdPred_lenZ _)
  clear x1 hk0 hr hK x2 hD hF hM
  go_enter Tryz.func15, Tryz.ntmps15
  go_wp2_with (with_reducible refine stop_callS _ rfl ?_)
  refine Stop.mk (EnvR.goZ HRD.out ?_)
  intro w00 he00 hz00
  have E := Lib.hid he00
  clear he00
  go_wp2_with (fail)
  refine (c_ref19_Above p st 12 _ E.out.rd).mono ?_
  rintro e w6 ⟨rfl, hr6, hk6⟩
  rw [HK.out]
  have hz6 := hk6.size
  replace E := Lib.hid ((E.out.call hr6 hk6).state (show _ = ddA st from rfl))
  clear hr6 hk6
  go_wp2_with (with_reducible refine stop_build 55 _ rfl ?_)
  refine Stop.mk (wpList_buildD rfl _ _ rfl [(0, .int .i64 K)] (by rfl) (Deed.arr { dz with kind := K } wz) (builtR_kind K) ?_)
  go_wp2_with (with_reducible refine stS 55 (.tmp 3) (.tmp 8) rfl rfl ?_)
  refine Stop.mk (wsB rfl _ _ _ rfl w6.heap.size _ (by first | rfl | simp) rfl _ (Blk.new _ _ _) strOpR (Deed.arr_size ⟨rfl, rfl⟩) (by rw [Deed.arr_size ⟨rfl, rfl⟩]; rfl) (Deed.arr_ones ⟨rfl, rfl⟩) ?_)
  intro w7 hb7 hk7
  replace E := Lib.hid ((E.out.alloc 55 _).put0 hb7 hk7)
  obtain ⟨G, hG⟩ : ∃ g, g = w6.heap.size := ⟨_, rfl⟩
  have HG := Lib.hid (show w.heap.size < G by omega)
  rw [← hG] at E ⊢
  clear hb7 hk7 hG hz6 hz00
  have hw := Lib.hid (show Deed.wf { dz with kind := K } from ⟨rfl, rfl⟩)
  obtain ⟨p0, p1, p2, p3, p4, p5, p6, p7⟩ := dcs hw.out E.out.b0
  have ff := fun i => E.out.b0.frozen i
  have hlt := E.out.b0.lt
  go_wp2_with (fail)
  clear p0 p1 p2 p3 p4 p5 p6 p7 ff hlt
  refine (c_ref47_number K _).mono ?_
  rintro e w9 ⟨rfl, hb9⟩
  rw [FN]
  replace E := Lib.hid (E.out.below hb9)
  clear hb9
  obtain ⟨p0, p1, p2, p3, p4, p5, p6, p7⟩ := dcs hw.out E.out.b0
  have ff := fun i => E.out.b0.frozen i
  have hlt := E.out.b0.lt
  go_wp2_with (fail)
  clear p0 p1 p2 p3 p4 p5 p6 p7 ff hlt
  refine (c_ref47_device K _).mono ?_
  rintro e w9 ⟨rfl, hb9⟩
  rw [FD]
  replace E := Lib.hid (E.out.below hb9)
  clear hb9
  go_wp2_with (fail)
  refine (c_ref01_RNum p _ 5 _ E.out.rd).mono ?_
  rintro e w9 ⟨rfl, hr9, hk9⟩
  rw [← HD.out]
  replace E := Lib.hid ((E.out.call hr9 hk9).state (show _ = ddB st from rfl))
  clear hr9 hk9
  obtain ⟨p0, p1, p2, p3, p4, p5, p6, p7⟩ := dcs hw.out E.out.b0
  have ff := fun i => E.out.b0.frozen i
  have hlt := E.out.b0.lt
  go_wp2_with (fail)
  clear p0 p1 p2 p3 p4 p5 p6 p7 ff hlt
  replace E := Lib.hid ((E.out.store0 2 (.int .i64 D)).as (show _ = Deed.arr { dz with kind := K, dev := D } wz from by have := Deed.setI hw.out (q := wz) 2 (by omega) D; simpa using this))
  replace hw := Lib.hid (show Deed.wf { dz with kind := K, dev := D } from ⟨hw.out.e, hw.out.p⟩)
  have hG1 := E.out.b0.lt
  refine (c_ref16_Read p _ _ E.out.rd).mono ?_
  rintro e w9 ⟨v9, rfl, own9, hr9, hk9⟩
  rw [← HF.out] at own9
  replace E := Lib.hid ((E.out.call hr9 hk9).state (show _ = ddF st from rfl))
  obtain ⟨A1, n1, rfl, -⟩ := own_form own9
  have O := Lib.hid (own_base own9 hG1)
  have HO := Lib.hid (show G < G + 1 by omega)
  clear hr9 hk9 own9 hG1
  obtain ⟨p0, p1, p2, p3, p4, p5, p6, p7⟩ := dcs hw.out E.out.b0
  have ff := fun i => E.out.b0.frozen i
  have hlt := E.out.b0.lt
  go_wp2_with (fail)
  clear p0 p1 p2 p3 p4 p5 p6 p7 ff hlt
  replace O := Lib.hid (own_kept O.out (kept_set _ G 33 (.slice A1 F.length n1)) (fun g hg => by injection hg with hg; have := HO.out; omega))
  replace E := Lib.hid ((E.out.store0 33 (.slice A1 F.length n1)).as (show _ = Deed.arr { dz with kind := K, dev := D, f := F } ⟨A1, n1, none, 0⟩ from by exact Deed.setF hw.out A1 F n1))
  replace hw := Lib.hid (show Deed.wf { dz with kind := K, dev := D, f := F } from ⟨hw.out.e, hw.out.p⟩)
  refine (c_ref01_RNum p _ 511 _ E.out.rd).mono ?_
  rintro e w9 ⟨rfl, hr9, hk9⟩
  rw [← HM.out]
  replace O := Lib.hid (own_kept O.out hk9 (fun g hg => by injection hg with hg; have := E.out.low; have := HG.out; have := HO.out; omega))
  replace E := Lib.hid ((E.out.call hr9 hk9).state (show _ = rdN' (ddF st) 511 from rfl))
  clear hr9 hk9
  obtain ⟨p0, p1, p2, p3, p4, p5, p6, p7⟩ := dcs hw.out E.out.b0
  have ff := fun i => E.out.b0.frozen i
  have hlt := E.out.b0.lt
  go_wp2_with (with_reducible refine stop_load 55 (.tmp 3) rfl rfl ?_)
  clear p0 p1 p2 p3 p4 p5 p6 p7 ff hlt
  replace O := Lib.hid (own_kept O.out (kept_set _ G 34 (.int .u32 M)) (fun g hg => by injection hg with hg; have := HO.out; omega))
  replace E := Lib.hid ((E.out.store0 34 (.int .u32 M)).as (show _ = Deed.arr { dz with kind := K, dev := D, f := F, mask := M } ⟨A1, n1, none, 0⟩ from by exact Deed.setM hw.out M))
  replace hw := Lib.hid (show Deed.wf { dz with kind := K, dev := D, f := F, mask := M } from ⟨hw.out.e, hw.out.p⟩)
  refine Stop.mk (wpList_loadB rfl _ _ rfl G rfl _ E.out.b0 strOpR (Deed.arr_size hw.out) ?_)
  go_wp2_with (with_reducible refine stS 55 (.tmp 2) (.tmp 74) rfl rfl ?_)
  refine Stop.mk (wsB rfl _ _ _ rfl w.heap.size _ rfl rfl _ E.out.b1 strOpR (Deed.arr_size hw.out) (by rw [Deed.arr_size hw.out]; rfl) (Deed.arr_ones hw.out) ?_)
  intro w99 hb99 hk99
  replace O := Lib.hid (own_kept O.out hk99 (fun g hg => by injection hg with hg; have := HG.out; have := HO.out; omega))
  replace E := Lib.hid ((E.out.put1 hb99 hk99).state (show _ = rdDeed' st by rw [X1.out]))
  clear hk99
  go_wp2_with (fail)
  exact bodyPost_ret (results_B rfl rfl hb99 strOpR (Deed.arr_size hw.out)) rfl ⟨{ dz with kind := K, dev := D, f := F, mask := M }, ⟨A1, n1, none, 0⟩, rfl, fun _ => X2.out.symm, hw.out, HFL.out, by simp, own_base O.out (by have := HG.out; have := HO.out; omega), World.ownsRow_nil _ _ _ _, E.out.rd, E.out.kept⟩
set_option maxHeartbeats 40000000 in
set_option maxRecDepth 10000 in
theorem ref47_read_W (p : Nat) (st : Rd) (w : World) (hr : RdR w p st) (hk0 : ddK st = 5) : Calls Tryz.prog 15 #[.pointer (some ⟨p, 0, none⟩)] w (RetRD p (rdDeed' st) w (rdDeed st)) := by
  obtain ⟨x1, x2⟩ := dd_5 hk0
  obtain ⟨K, hK⟩ : ∃ K, K = ddK st := ⟨_, rfl⟩
  obtain ⟨D, hD⟩ : ∃ D, D = rdN (ddA st) 5 := ⟨_, rfl⟩
  have HD := Lib.hid hD
  obtain ⟨I, hI⟩ : ∃ D, D = rdN (ddB st) 1073741823 := ⟨_, rfl⟩
  have HI := Lib.hid hI
  obtain ⟨F, hF⟩ : ∃ D, D = rdPatch (ddW st) := ⟨_, rfl⟩
  have HF := Lib.hid hF
  rw [← hK] at hk0
  have FN : dN K = false := by unfold dN; simp; omega
  have FD : dD K = true := by unfold dD; simp; omega
  have j1 : (K == 1) = false := by simp; omega
  have j3 : (K == 3) = false := by simp; omega
  have j5 : (K == 5) = true := by simp; omega
  have j11 : (K == 11) = false := by simp; omega
  have j12 : (K == 12) = false := by simp; omega
  have X1 := Lib.hid x1
  have X2 := Lib.hid (show rdDeed st = { dz with kind := K, dev := D, id := I, p := F } by rw [x2, hk0, hD, hI, hF])
  have HK := Lib.hid (show rdN st 12 = K from hK.symm)
  have HRD := Lib.hid hr
  have HL := Lib.hid (show F.f.length = 8 by rw [hF]; exact rdPatch_len _)
  clear x1 hk0 hr hK x2 hD hI hF
  go_enter Tryz.func15, Tryz.ntmps15
  go_wp2_with (with_reducible refine stop_callS _ rfl ?_)
  refine Stop.mk (EnvR.goZ HRD.out ?_)
  intro w00 he00 hz00
  have E := Lib.hid he00
  clear he00
  go_wp2_with (fail)
  refine (c_ref19_Above p st 12 _ E.out.rd).mono ?_
  rintro e w6 ⟨rfl, hr6, hk6⟩
  rw [HK.out]
  have hz6 := hk6.size
  replace E := Lib.hid ((E.out.call hr6 hk6).state (show _ = ddA st from rfl))
  clear hr6 hk6
  go_wp2_with (with_reducible refine stop_build 55 _ rfl ?_)
  refine Stop.mk (wpList_buildD rfl _ _ rfl [(0, .int .i64 K)] (by rfl) (Deed.arr { dz with kind := K } wz) (builtR_kind K) ?_)
  go_wp2_with (with_reducible refine stS 55 (.tmp 3) (.tmp 8) rfl rfl ?_)
  refine Stop.mk (wsB rfl _ _ _ rfl w6.heap.size _ (by first | rfl | simp) rfl _ (Blk.new _ _ _) strOpR (Deed.arr_size ⟨rfl, rfl⟩) (by rw [Deed.arr_size ⟨rfl, rfl⟩]; rfl) (Deed.arr_ones ⟨rfl, rfl⟩) ?_)
  intro w7 hb7 hk7
  replace E := Lib.hid ((E.out.alloc 55 _).put0 hb7 hk7)
  obtain ⟨G, hG⟩ : ∃ g, g = w6.heap.size := ⟨_, rfl⟩
  have HG := Lib.hid (show w.heap.size < G by omega)
  rw [← hG] at E ⊢
  clear hb7 hk7 hG hz6 hz00
  have hw := Lib.hid (show Deed.wf { dz with kind := K } from ⟨rfl, rfl⟩)
  obtain ⟨p0, p1, p2, p3, p4, p5, p6, p7⟩ := dcs hw.out E.out.b0
  have ff := fun i => E.out.b0.frozen i
  have hlt := E.out.b0.lt
  go_wp2_with (fail)
  clear p0 p1 p2 p3 p4 p5 p6 p7 ff hlt
  refine (c_ref47_number K _).mono ?_
  rintro e w9 ⟨rfl, hb9⟩
  rw [FN]
  replace E := Lib.hid (E.out.below hb9)
  clear hb9
  obtain ⟨p0, p1, p2, p3, p4, p5, p6, p7⟩ := dcs hw.out E.out.b0
  have ff := fun i => E.out.b0.frozen i
  have hlt := E.out.b0.lt
  go_wp2_with (fail)
  clear p0 p1 p2 p3 p4 p5 p6 p7 ff hlt
  refine (c_ref47_device K _).mono ?_
  rintro e w9 ⟨rfl, hb9⟩
  rw [FD]
  replace E := Lib.hid (E.out.below hb9)
  clear hb9
  go_wp2_with (fail)
  refine (c_ref01_RNum p _ 5 _ E.out.rd).mono ?_
  rintro e w9 ⟨rfl, hr9, hk9⟩
  rw [← HD.out]
  replace E := Lib.hid ((E.out.call hr9 hk9).state (show _ = ddB st from rfl))
  clear hr9 hk9
  obtain ⟨p0, p1, p2, p3, p4, p5, p6, p7⟩ := dcs hw.out E.out.b0
  have ff := fun i => E.out.b0.frozen i
  have hlt := E.out.b0.lt
  go_wp2_with (fail)
  clear p0 p1 p2 p3 p4 p5 p6 p7 ff hlt
  replace E := Lib.hid ((E.out.store0 2 (.int .i64 D)).as (show _ = Deed.arr { dz with kind := K, dev := D } wz from by have := Deed.setI hw.out (q := wz) 2 (by omega) D; simpa using this))
  replace hw := Lib.hid (show Deed.wf { dz with kind := K, dev := D } from ⟨hw.out.e, hw.out.p⟩)
  refine (c_ref19_Above p _ 1073741823 _ E.out.rd).mono ?_
  rintro e w9 ⟨rfl, hr9, hk9⟩
  rw [← HI.out]
  replace E := Lib.hid ((E.out.call hr9 hk9).state (show _ = ddW st from rfl))
  clear hr9 hk9
  obtain ⟨p0, p1, p2, p3, p4, p5, p6, p7⟩ := dcs hw.out E.out.b0
  have ff := fun i => E.out.b0.frozen i
  have hlt := E.out.b0.lt
  go_wp2_with (fail)
  clear p0 p1 p2 p3 p4 p5 p6 p7 ff hlt
  replace E := Lib.hid ((E.out.store0 3 (.int .i64 I)).as (show _ = Deed.arr { dz with kind := K, dev := D, id := I } wz from by have := Deed.setI hw.out (q := wz) 3 (by omega) I; simpa using this))
  replace hw := Lib.hid (show Deed.wf { dz with kind := K, dev := D, id := I } from ⟨hw.out.e, hw.out.p⟩)
  refine (c_ref19_Patch p _ _ E.out.rd).mono ?_
  rintro e w9 ⟨rfl, hr9, hk9⟩
  rw [← HF.out]
  replace E := Lib.hid ((E.out.call hr9 hk9).state (show _ = rdPatch' (ddW st) from rfl))
  clear hr9 hk9
  go_wp2_with (with_reducible refine stS 39 (.tmp 45) (.tmp 44) rfl rfl ?_)
  refine Stop.mk (wpList_storeAt rfl _ _ _ rfl G 35 F.arr rfl rfl _ E.out.b0 strP (by rw [Patch.arr_size, HL.out]) (by rw [Patch.arr_size, HL.out, Deed.arr_size hw.out]; decide) (Patch.arr_one _) ?_)
  intro w20 hb20 hk20
  replace E := Lib.hid (E.out.put0 (show Blk w20 G (Deed.arr { dz with kind := K, dev := D, id := I, p := F } wz) by rw [← Deed.putP hw.out F HL.out]; exact hb20) hk20)
  replace hw := Lib.hid (show Deed.wf { dz with kind := K, dev := D, id := I, p := F } from ⟨hw.out.e, HL.out⟩)
  clear hb20 hk20
  obtain ⟨p0, p1, p2, p3, p4, p5, p6, p7⟩ := dcs hw.out E.out.b0
  have ff := fun i => E.out.b0.frozen i
  have hlt := E.out.b0.lt
  go_wp2_with (with_reducible refine stop_load 55 (.tmp 3) rfl rfl ?_)
  clear p0 p1 p2 p3 p4 p5 p6 p7 ff hlt
  refine Stop.mk (wpList_loadB rfl _ _ rfl G rfl _ E.out.b0 strOpR (Deed.arr_size hw.out) ?_)
  go_wp2_with (with_reducible refine stS 55 (.tmp 2) (.tmp 74) rfl rfl ?_)
  refine Stop.mk (wsB rfl _ _ _ rfl w.heap.size _ rfl rfl _ E.out.b1 strOpR (Deed.arr_size hw.out) (by rw [Deed.arr_size hw.out]; rfl) (Deed.arr_ones hw.out) ?_)
  intro w99 hb99 hk99
  replace E := Lib.hid ((E.out.put1 hb99 hk99).state (show _ = rdDeed' st by rw [X1.out]))
  clear hk99
  go_wp2_with (fail)
  exact bodyPost_ret (results_B rfl rfl hb99 strOpR (Deed.arr_size hw.out)) rfl ⟨{ dz with kind := K, dev := D, id := I, p := F }, wz, rfl, fun _ => X2.out.symm, hw.out, by simp, by simp, World.ownsRow_nil _ _ _ _, World.ownsRow_nil _ _ _ _, E.out.rd, E.out.kept⟩
end Go.Proofs.YtiedkcijjfmhaaaGreatDoor
namespace Go.Proofs.YtiedkcijjfmhaaaGreatDoor
open Go.RowKit

theorem rdInts'_stop {most : Int} {k N : Nat} {st : Rd} (hk : k ≤ N) (he : (rdInts' most k st).e ≠ 0) : rdInts' most N st = rdInts' most k st := by
  obtain ⟨n, rfl⟩ : ∃ n, N = k + n := ⟨N - k, by omega⟩
  clear hk
  induction n with
  | zero => rfl
  | succ n ih =>
    rw [Nat.add_succ, (rdInts_snoc most (k + n) st).2, ih]
    exact (rdN_err he).2
set_option maxHeartbeats 40000000 in
set_option maxRecDepth 10000 in
theorem ref47_read_K (p : Nat) (st : Rd) (w : World) (hr : RdR w p st) (hk0 : ddK st = 11) : Calls Tryz.prog 15 #[.pointer (some ⟨p, 0, none⟩)] w (RetRD p (rdDeed' st) w (rdDeed st)) := by
  obtain ⟨x1, x2⟩ := dd_11 hk0
  have hcN : ddC st = (rdN (ddA st) 40).toNat := rfl
  obtain ⟨K, hK⟩ : ∃ K, K = ddK st := ⟨_, rfl⟩
  obtain ⟨N, hN⟩ : ∃ D : Nat, (D : Int) = rdN (ddA st) 40 := ⟨(rdN (ddA st) 40).toNat, by have := rdN_bd (ddA st) 40; omega⟩
  have HN := Lib.hid hN
  rw [← hK] at hk0
  have FN : dN K = false := by unfold dN; simp; omega
  have FD : dD K = false := by unfold dD; simp; omega
  have j1 : (K == 1) = false := by simp; omega
  have j3 : (K == 3) = false := by simp; omega
  have j5 : (K == 5) = false := by simp; omega
  have j11 : (K == 11) = true := by simp; omega
  have j12 : (K == 12) = false := by simp; omega
  have X1 := Lib.hid x1
  have X2 := Lib.hid (show rdDeed st = { dz with kind := K, keep := rdInts 2 N (ddL st) } by rw [x2, hk0, hcN, ← hN, Int.toNat_natCast])
  have HK := Lib.hid (show rdN st 12 = K from hK.symm)
  have HRD := Lib.hid hr
  rw [hcN, ← hN, Int.toNat_natCast] at x1
  replace X1 := Lib.hid x1
  have hN40 := Lib.hid (show N ≤ 40 by have := rdN_bd (ddA st) 40; omega)
  clear hcN
  clear x1 hk0 hr hK x2 hN
  go_enter Tryz.func15, Tryz.ntmps15
  go_wp2_with (with_reducible refine stop_callS _ rfl ?_)
  refine Stop.mk (EnvR.goZ HRD.out ?_)
  intro w00 he00 hz00
  have E := Lib.hid he00
  clear he00
  go_wp2_with (fail)
  refine (c_ref19_Above p st 12 _ E.out.rd).mono ?_
  rintro e w6 ⟨rfl, hr6, hk6⟩
  rw [HK.out]
  have hz6 := hk6.size
  replace E := Lib.hid ((E.out.call hr6 hk6).state (show _ = ddA st from rfl))
  clear hr6 hk6
  go_wp2_with (with_reducible refine stop_build 55 _ rfl ?_)
  refine Stop.mk (wpList_buildD rfl _ _ rfl [(0, .int .i64 K)] (by rfl) (Deed.arr { dz with kind := K } wz) (builtR_kind K) ?_)
  go_wp2_with (with_reducible refine stS 55 (.tmp 3) (.tmp 8) rfl rfl ?_)
  refine Stop.mk (wsB rfl _ _ _ rfl w6.heap.size _ (by first | rfl | simp) rfl _ (Blk.new _ _ _) strOpR (Deed.arr_size ⟨rfl, rfl⟩) (by rw [Deed.arr_size ⟨rfl, rfl⟩]; rfl) (Deed.arr_ones ⟨rfl, rfl⟩) ?_)
  intro w7 hb7 hk7
  replace E := Lib.hid ((E.out.alloc 55 _).put0 hb7 hk7)
  obtain ⟨G, hG⟩ : ∃ g, g = w6.heap.size := ⟨_, rfl⟩
  have HG := Lib.hid (show w.heap.size < G by omega)
  rw [← hG] at E ⊢
  clear hb7 hk7 hG hz6 hz00
  have hw := Lib.hid (show Deed.wf { dz with kind := K } from ⟨rfl, rfl⟩)
  obtain ⟨p0, p1, p2, p3, p4, p5, p6, p7⟩ := dcs hw.out E.out.b0
  have ff := fun i => E.out.b0.frozen i
  have hlt := E.out.b0.lt
  go_wp2_with (fail)
  clear p0 p1 p2 p3 p4 p5 p6 p7 ff hlt
  refine (c_ref47_number K _).mono ?_
  rintro e w9 ⟨rfl, hb9⟩
  rw [FN]
  replace E := Lib.hid (E.out.below hb9)
  clear hb9
  obtain ⟨p0, p1, p2, p3, p4, p5, p6, p7⟩ := dcs hw.out E.out.b0
  have ff := fun i => E.out.b0.frozen i
  have hlt := E.out.b0.lt
  go_wp2_with (fail)
  clear p0 p1 p2 p3 p4 p5 p6 p7 ff hlt
  refine (c_ref47_device K _).mono ?_
  rintro e w9 ⟨rfl, hb9⟩
  rw [FD]
  replace E := Lib.hid (E.out.below hb9)
  clear hb9
  obtain ⟨p0, p1, p2, p3, p4, p5, p6, p7⟩ := dcs hw.out E.out.b0
  have ff := fun i => E.out.b0.frozen i
  have hlt := E.out.b0.lt
  go_wp2_with (fail)
  clear p0 p1 p2 p3 p4 p5 p6 p7 ff hlt
  refine (c_ref01_RNum p _ 40 _ E.out.rd).mono ?_
  rintro e w9 ⟨rfl, hr9, hk9⟩
  rw [← HN.out]
  replace E := Lib.hid ((E.out.call hr9 hk9).state (show _ = ddL st from rfl))
  clear hr9 hk9
  obtain ⟨B, hB⟩ : ∃ B, B = w9.heap.size := ⟨_, rfl⟩
  have HO := Lib.hid (show G < B by rw [hB]; exact E.out.b0.lt)
  have HB0 := Lib.hid (show B ≤ w9.heap.size by omega)
  clear hB
  go_wp2_with (fail)
  go_loopw [5] (fun i wr => ∃ (k : Nat) (A : Option Addr) (c : Nat), k ≤ N ∧ i = .int .i64 k ∧ Hid (EnvR p (rdInts' 2 k (ddL st)) w wr [(G, Deed.arr { dz with kind := K, keep := rdInts 2 k (ddL st) } ⟨none, 0, A, c⟩), (w.heap.size, #[.int .i64 0, .int .i64 0, .int .i64 0, .int .i64 0, .int .i64 0, .int .i64 0, .int .i64 0, .int .u32 0, .int .u32 0, .int .i64 0, .int .i64 0, .string (str []), .int .i64 0, .int .i64 0, .string (str []), .int .i64 0, .int .i64 0, .string (str []), .int .i64 0, .int .i64 0, .string (str []), .int .i64 0, .int .i64 0, .string (str []), .int .i64 0, .int .i64 0, .string (str []), .int .i64 0, .int .i64 0, .string (str []), .int .i64 0, .int .i64 0, .string (str []), .slice none 0 0, .int .u32 0, .int .u32 0, .int .u32 0, .int .i64 0, .int .i64 0, .string (str []), .int .i64 0, .int .i64 0, .string (str []), .int .i64 0, .int .i64 0, .string (str []), .int .i64 0, .int .i64 0, .string (str []), .int .i64 0, .int .i64 0, .string (str []), .int .i64 0, .int .i64 0, .string (str []), .int .i64 0, .int .i64 0, .string (str []), .int .i64 0, .int .i64 0, .string (str []), .slice none 0 0, .string (str [])])]) ∧ Hid (wr.ownsRow B 3 1 (.slice A k c) k ((rdInts 2 k (ddL st)).flatMap ic)) ∧ Hid (B ≤ wr.heap.size)) (fun i _ => N - (intOf i).toNat)
  case atStart => exact ⟨0, none, 0, by omega, rfl, E.out, World.ownsRow_nil _ _ _ _, HB0.out⟩
  case round =>
    clear E HB0
    obtain ⟨k, A, c, hkN, rfl, E, O, HBw⟩ := hrel
    have hk41 : k < 41 := by have := hN40.out; omega
    by_cases hlt : k < N
    · have d1 : decide ((k : Int) < (N : Int)) = true := by simp; omega
      by_cases he : (rdInts' 2 k (ddL st)).e = 0
      · have jE : ((rdInts' 2 k (ddL st)).e == 0) = true := by simpa using he
        obtain ⟨sn1, sn2⟩ := rdInts_snoc 2 k (ddL st)
        obtain ⟨S1, hS1⟩ : ∃ S, S = rdInts' 2 k (ddL st) := ⟨_, rfl⟩
        obtain ⟨l, hl⟩ : ∃ l, l = rdInts 2 k (ddL st) := ⟨_, rfl⟩
        obtain ⟨x, hx⟩ : ∃ x, x = rdN S1 2 := ⟨_, rfl⟩
        obtain ⟨S2, hS2⟩ : ∃ S, S = rdN' S1 2 := ⟨_, rfl⟩
        have hln : l.length = k := by rw [hl]; exact rdInts_len 2 k _
        rw [← hS1, ← hl, ← hx] at sn1
        rw [← hS1, ← hS2] at sn2
        rw [← hS1] at jE
        have SN1 := Lib.hid sn1
        have SN2 := Lib.hid sn2
        have HX := Lib.hid hx
        have HS2 := Lib.hid hS2
        have O1 := Lib.hid (show wr.ownsRow B 3 1 (.slice A l.length c) l.length (l.flatMap ic) by rw [hln, hl]; exact O.out)
        have HXX := Lib.hid (show (Deed.arr { dz with kind := K, keep := l } ⟨none, 0, A, c⟩)[61]? = some (.slice A l.length c) from (Deed.getK ⟨rfl, rfl⟩ 0 (by omega)).trans rfl)
        rw [← hS1, ← hl] at E
        obtain ⟨X, hX⟩ : ∃ X, X = Deed.arr { dz with kind := K, keep := l } ⟨none, 0, A, c⟩ := ⟨_, rfl⟩
        have HXE := Lib.hid hX
        rw [← hX] at E HXX
        have HLN := Lib.hid hln
        have hl8 : l.length ≤ 1000 := by have := hN40.out; omega
        have uc := E.out.rd.1.cell (i := 1) rfl
        clear sn1 sn2 hS1 hl hx hS2 hX hln O he
        go_wp2_with (fail)
        clear uc
        refine wp_region_relM (VV [some (.pointer (some ⟨G, 61, none⟩)), some (.slice A l.length c), some (.pointer (some ⟨p, 0, none⟩)), some (.int .i64 x), none, none, some (.pointer (some ⟨G, 61, none⟩)), none]) (KR p S1 S2 w G B X #[.int .i64 0, .int .i64 0, .int .i64 0, .int .i64 0, .int .i64 0, .int .i64 0, .int .i64 0, .int .u32 0, .int .u32 0, .int .i64 0, .int .i64 0, .string (str []), .int .i64 0, .int .i64 0, .string (str []), .int .i64 0, .int .i64 0, .string (str []), .int .i64 0, .int .i64 0, .string (str []), .int .i64 0, .int .i64 0, .string (str []), .int .i64 0, .int .i64 0, .string (str []), .int .i64 0, .int .i64 0, .string (str []), .int .i64 0, .int .i64 0, .string (str []), .slice none 0 0, .int .u32 0, .int .u32 0, .int .u32 0, .int .i64 0, .int .i64 0, .string (str []), .int .i64 0, .int .i64 0, .string (str []), .int .i64 0, .int .i64 0, .string (str []), .int .i64 0, .int .i64 0, .string (str []), .int .i64 0, .int .i64 0, .string (str []), .int .i64 0, .int .i64 0, .string (str []), .int .i64 0, .int .i64 0, .string (str []), .int .i64 0, .int .i64 0, .string (str []), .slice none 0 0, .string (str [])] A c l x) 75 (by kernel_rfl) (by kernel_rfl) rfl ?_ ?_ ?_
        · intro u w' hb hh
          exact KR.start (Nat.le_trans HBw.out hb.size) HG.out HO.out (E.out.below hb) (own_below O1.out hb)
        · refine ⟨?_, ?_, ?_, ?_, ?_, ?_, ?_, ?_, trivial⟩
          all_goals
            rintro L u W1 hM hL hd
            have M := Lib.hid hM
            clear hM
            simp [DepsM, Region.binds, VV] at hd
            simp only [putDeps, dstOf, Region.binds]
          case refine_1 | refine_3 | refine_7 =>
            go_wp2_with (fail)
            exact EndM.mk rfl ⟨rfl, M.out.pure (by decide) (by decide) (by decide) (by decide)⟩
          case refine_2 =>
            have q61 := (M.out.blk (M.out.no7 (M.out.no5' hL))).cell HXX.out
            go_wp2_with (fail)
            exact EndM.mk rfl ⟨rfl, M.out.pure (by decide) (by decide) (by decide) (by decide)⟩
          case refine_4 =>
            have r1 : RdR W1 p S1 := by have := M.out.env.rd; rwa [if_neg (by rw [hL]; simp)] at this
            have R1 := Lib.hid r1
            clear r1
            go_wp2_with (go_at_call 14; refine (c_ref01_RNum p S1 2 _ R1.out).mono ?_; rintro e w9 ⟨rfl, hr9, hk9⟩; rw [← HX.out])
            rw [← HS2.out] at hr9
            exact EndM.mk rfl ⟨rfl, M.out.call hL hr9 hk9⟩
          case refine_5 =>
            go_wp2_with (fail)
            exact EndM.mk rfl ⟨trivial, M.out.make hd.1 hL⟩
          case refine_6 =>
            obtain ⟨⟨hL1, hu1⟩, hL4, -⟩ := hd
            obtain ⟨g, e4, hsrc⟩ := M.out.lit hL4 hL
            have own := M.out.own
            rw [if_neg (by rw [hL]; simp)] at own
            rw [e4]
            go_wp2_with ((at_builtin; refine Stop.out ?_))
            refine Stop.mk (wpList_app _ rfl _ _ elemI rfl B (.slice A l.length c) l.length _ rfl own _ 1 1 (ic x) rfl hsrc (by simp [ic, Value.oneCell']) (by omega) M.out.hB ?_)
            intro v7 w7 own7 _ hb7 _
            exact EndM.mk rfl ⟨trivial, M.out.app hL1 hL4 hL own7 hb7⟩
          case refine_8 =>
            obtain ⟨⟨-, hu6⟩, hL5, -⟩ := hd
            have own := M.out.own
            rw [if_pos hL5] at own
            obtain ⟨A5, c5, e5, -⟩ := own_form own
            have s9 := (M.out.blk hL).cell HXX.out
            have sf := fun i => (M.out.blk hL).frozen i
            have slt := (M.out.blk hL).lt
            have PUT := Lib.hid (M.out.put (v := undef) hL5 hL)
            rw [e5] at PUT
            rw [e5]
            clear own
            go_wp2_with (fail)
            exact EndM.mk0 rfl ⟨trivial, PUT.out⟩
        · rintro u W1 hv hM
          obtain ⟨E2, O2⟩ := hM.done
          have hBz := hM.hB
          clear hv hM
          simp only [putAll, Act.put, Nat.reduceAdd, List.setIfInBounds_toArray, List.set_cons_zero, List.set_cons_succ]
          obtain ⟨A2, c2, e5, -⟩ := own_form O2
          rw [e5] at E2 O2 ⊢
          have E3 := Lib.hid ((E2.state SN2.out.symm).as (show _ = Deed.arr { dz with kind := K, keep := rdInts 2 (k + 1) (ddL st) } ⟨none, 0, A2, c2⟩ by
            rw [SN1.out, HXE.out]
            have := Deed.setK (o := { dz with kind := K, keep := l }) (q := ⟨none, 0, A, c⟩) ⟨rfl, rfl⟩ A2 (l ++ [x]) c2
            rw [List.length_append, List.length_singleton] at this
            exact this))
          have O3 := Lib.hid (show W1.ownsRow B 3 1 (.slice A2 (k + 1) c2) (k + 1) ((rdInts 2 (k + 1) (ddL st)).flatMap ic) by rw [SN1.out, ← HLN.out]; exact O2)
          have HB3 := Lib.hid hBz
          clear E2 O2 e5 hBz
          go_wp2_with (fail)
          go_roundw
          case rel => exact ⟨k + 1, A2, c2, by omega, by go_num, E3.out, O3.out, HB3.out⟩
          case measure => simp [intOf]; omega
      · have jE : ((rdInts' 2 k (ddL st)).e == 0) = false := by simpa using he
        replace hw := Lib.hid (show Deed.wf { dz with kind := K, keep := rdInts 2 k (ddL st) } from ⟨rfl, rfl⟩)
        have hlk : (rdInts 2 k (ddL st)).length = k := rdInts_len 2 k _
        replace O := Lib.hid (show wr.ownsRow B 3 1 (.slice A (rdInts 2 k (ddL st)).length c) (rdInts 2 k (ddL st)).length ((rdInts 2 k (ddL st)).flatMap ic) by rw [hlk]; exact O.out)
        have HKL := Lib.hid (show (rdInts 2 k (ddL st)).length ≤ 40 by rw [hlk]; have := hN40.out; omega)
        have hst : rdInts' 2 N (ddL st) = rdInts' 2 k (ddL st) := rdInts'_stop (by omega) he
        have XS := Lib.hid (show rdInts' 2 k (ddL st) = rdDeed' st by rw [X1.out, hst])
        have XE := Lib.hid (show (rdDeed' st).e = 0 → ({ dz with kind := K, keep := rdInts 2 k (ddL st) } : Deed) = rdDeed st from fun h => by rw [X1.out, hst] at h; exact absurd h he)
        clear hst he
        clear hlk HBw
        have uc := E.out.rd.1.cell (i := 1) rfl
        obtain ⟨p0, p1, p2, p3, p4, p5, p6, p7⟩ := dcs hw.out E.out.b0
        have ff := fun i => E.out.b0.frozen i
        have hlt := E.out.b0.lt
        go_wp2_with (with_reducible refine stop_load 55 (.tmp 3) rfl rfl ?_)
        clear p0 p1 p2 p3 p4 p5 p6 p7 ff hlt
        clear uc
        refine Stop.mk (wpList_loadB rfl _ _ rfl G rfl _ E.out.b0 strOpR (Deed.arr_size hw.out) ?_)
        go_wp2_with (with_reducible refine stS 55 (.tmp 2) (.tmp 74) rfl rfl ?_)
        refine Stop.mk (wsB rfl _ _ _ rfl w.heap.size _ rfl rfl _ E.out.b1 strOpR (Deed.arr_size hw.out) (by rw [Deed.arr_size hw.out]; rfl) (Deed.arr_ones hw.out) ?_)
        intro w99 hb99 hk99
        replace O := Lib.hid (own_kept O.out hk99 (fun g hg => by injection hg with hg; have := HG.out; have := HO.out; omega))
        replace E := Lib.hid ((E.out.put1 hb99 hk99).state XS.out)
        clear hk99
        go_wp2_with (fail)
        exact bodyPost_ret (results_B rfl rfl hb99 strOpR (Deed.arr_size hw.out)) rfl ⟨{ dz with kind := K, keep := rdInts 2 k (ddL st) }, ⟨none, 0, A, c⟩, rfl, XE.out, hw.out, by simp, HKL.out, World.ownsRow_nil _ _ _ _, own_base O.out (by have := HG.out; have := HO.out; omega), E.out.rd, E.out.kept⟩
    · obtain rfl : k = N := by omega
      have d1 : decide ((k : Int) < (k : Int)) = false := by simp
      replace hw := Lib.hid (show Deed.wf { dz with kind := K, keep := rdInts 2 k (ddL st) } from ⟨rfl, rfl⟩)
      have hlk : (rdInts 2 k (ddL st)).length = k := rdInts_len 2 k _
      replace O := Lib.hid (show wr.ownsRow B 3 1 (.slice A (rdInts 2 k (ddL st)).length c) (rdInts 2 k (ddL st)).length ((rdInts 2 k (ddL st)).flatMap ic) by rw [hlk]; exact O.out)
      have HKL := Lib.hid (show (rdInts 2 k (ddL st)).length ≤ 40 by rw [hlk]; have := hN40.out; omega)
      have XS := Lib.hid (show rdInts' 2 k (ddL st) = rdDeed' st by rw [X1.out])
      have XE := Lib.hid (show (rdDeed' st).e = 0 → ({ dz with kind := K, keep := rdInts 2 k (ddL st) } : Deed) = rdDeed st from fun _ => X2.out.symm)
      clear hlk HBw
      have uc := E.out.rd.1.cell (i := 1) rfl
      obtain ⟨p0, p1, p2, p3, p4, p5, p6, p7⟩ := dcs hw.out E.out.b0
      have ff := fun i => E.out.b0.frozen i
      have hlt := E.out.b0.lt
      go_wp2_with (with_reducible refine stop_load 55 (.tmp 3) rfl rfl ?_)
      clear p0 p1 p2 p3 p4 p5 p6 p7 ff hlt
      clear uc
      refine Stop.mk (wpList_loadB rfl _ _ rfl G rfl _ E.out.b0 strOpR (Deed.arr_size hw.out) ?_)
      go_wp2_with (with_reducible refine stS 55 (.tmp 2) (.tmp 74) rfl rfl ?_)
      refine Stop.mk (wsB rfl _ _ _ rfl w.heap.size _ rfl rfl _ E.out.b1 strOpR (Deed.arr_size hw.out) (by rw [Deed.arr_size hw.out]; rfl) (Deed.arr_ones hw.out) ?_)
      intro w99 hb99 hk99
      replace O := Lib.hid (own_kept O.out hk99 (fun g hg => by injection hg with hg; have := HG.out; have := HO.out; omega))
      replace E := Lib.hid ((E.out.put1 hb99 hk99).state XS.out)
      clear hk99
      go_wp2_with (fail)
      exact bodyPost_ret (results_B rfl rfl hb99 strOpR (Deed.arr_size hw.out)) rfl ⟨{ dz with kind := K, keep := rdInts 2 k (ddL st) }, ⟨none, 0, A, c⟩, rfl, XE.out, hw.out, by simp, HKL.out, World.ownsRow_nil _ _ _ _, own_base O.out (by have := HG.out; have := HO.out; omega), E.out.rd, E.out.kept⟩
end Go.Proofs.YtiedkcijjfmhaaaGreatDoor
namespace Go.Proofs.YtiedkcijjfmhaaaGreatDoor
open Go.RowKit

theorem c_ref47_read (p : Nat) (st : Rd) (w : World) (hr : RdR w p st) : Calls Tryz.prog 15 #[.pointer (some ⟨p, 0, none⟩)] w (RetRD p (rdDeed' st) w (rdDeed st)) := by
  rcases ddK_cases st with h | h | h | h | h | h | h | h
  · exact ref47_read_Z p st w hr h
  · exact ref47_read_E p st w hr h
  · exact ref47_read_N p st w hr (by unfold dN at h; simp only [decide_eq_true_eq] at h; omega)
  · exact ref47_read_F p st w hr h
  · exact ref47_read_D p st w hr h
  · exact ref47_read_W p st w hr h
  · exact ref47_read_K p st w hr h
  · exact ref47_read_T p st w hr h
end Go.Proofs.YtiedkcijjfmhaaaGreatDoor
