/-
  Lemmas (walks and plain laws), in one text.
-/
import Derived.Test.YtiedkcijjfmhaaaDoorSy10
import Derived.Test.YtiedkcijjfmhaaaDoorSy21
import Derived.Test.YtiedkcijjfmhaaaDoorSy29
import Derived.Laws.IdiomStrings
namespace Go.Proofs.YtiedkcijjfmhaaaDoor
open Go.RowKit

set_option maxHeartbeats 40000000 in
set_option maxRecDepth 10000 in
theorem script_read_W1 (p : Option Nat) (st : Rd) (w : World) (hT : Tab w) (hr : RdP w p st) (hk0 : ddK st = 5) (hi0 : ¬ rdN (ddB st) 1073741823 = 0) (hc0 : (rdPatch (ddW st)).code = 0) : Calls Tryd.prog 44 #[ptr p] w (RetPD p (rdDeed' st) w (rdDeed st)) := by
  obtain ⟨x1, x2⟩ := dd_5 hk0
  obtain ⟨K, hK⟩ : ∃ K, K = ddK st := ⟨_, rfl⟩
  obtain ⟨D, hD⟩ : ∃ D, D = rdN (ddA st) 5 := ⟨_, rfl⟩
  have HD := lh hD
  obtain ⟨I, hI⟩ : ∃ D, D = rdN (ddB st) 1073741823 := ⟨_, rfl⟩
  have HI := lh hI
  obtain ⟨F, hF⟩ : ∃ D, D = rdPatch (ddW st) := ⟨_, rfl⟩
  have HF := lh hF
  rw [← hK] at hk0
  have FE : dE K = false := by unfold dE; simp; omega
  have FN : dN K = false := by unfold dN; simp; omega
  have FD : dD K = true := by unfold dD; simp; omega
  have FF : dF K = false := by unfold dF; simp; omega
  have FW : dW K = true := by unfold dW; simp; omega
  have FK : dK K = false := by unfold dK; simp; omega
  have FT : dT K = false := by unfold dT; simp; omega
  have j0 : (K == 0) = false := by simp; omega
  have X1 := lh x1
  have X2 := lh (show rdDeed st = { dz with kind := K, dev := D, id := I, p := F } by rw [x2, hk0, hD, hI, hF])
  have HK := lh (show rdN st 12 = K from hK.symm)
  have HA := lh (show rdN' st 12 = ddA st from (rdAb'_pos (by rw [show rdN st 12 = ddK st from rfl, ← hK]; omega)).symm)
  have hpT := lh (hr.tab hT)
  have HT := lh hT
  have HRD := lh hr
  have jI : (I == 0) = false := by rw [hI]; simpa using hi0
  have HI2 := lh (show rdN' (ddB st) 1073741823 = ddW st from (rdAb'_pos hi0).symm)
  have jC : (F.code != 0) = false := by rw [hF]; simpa using hc0
  have HL := lh (show F.f.length = 8 by rw [hF]; exact rdPatch_len _)
  have HM := lh (show F.mask < 4294967296 by rw [hF]; have := (rdPatch_mask (ddW st)).1; omega)
  have HSZ := lh (show ∀ x ∈ F.f, x.s.length ≤ 4294967000 by rw [hF]; exact rdPatch_sizes _)
  clear hi0 hc0
  clear x1 hk0 hr hT hK x2 hD hI hF
  go_enter Tryd.func44, Tryd.ntmps44
  go_wp2_with (with_reducible refine stop_callS _ rfl ?_)
  refine Stop.mk (EnvP.go HRD.out ?_)
  intro w00 he00 hz00
  have E := lh he00
  clear he00
  go_wp2_with (fail)
  refine (c_octet_RNum p st 12 _ E.out.rd).mono ?_
  rintro e w6 ⟨rfl, hr6, hk6⟩
  rw [HK.out]
  have hz6 := hk6.size
  replace E := lh (E.out.call hr6 hk6)
  clear hr6 hk6
  go_wp2_with (with_reducible refine stop_build 38 _ rfl ?_)
  refine Stop.mk (wpList_buildD rfl _ _ rfl [(0, .int .i64 K)] (by rfl) (Deed.arr { dz with kind := K } wz) (built_kind K) ?_)
  go_wp2_with (with_reducible refine stS 38 (.tmp 3) (.tmp 6) rfl rfl ?_)
  refine Stop.mk (wsB rfl _ _ _ rfl w6.heap.size _ (by first | rfl | simp) rfl _ (Blk.new _ _ _) strOp (Deed.arr_size ⟨rfl, rfl⟩) (by rw [Deed.arr_size ⟨rfl, rfl⟩]; rfl) (Deed.arr_ones ⟨rfl, rfl⟩) ?_)
  intro w7 hb7 hk7
  replace E := lh ((E.out.alloc 38 _).put0 hb7 hk7)
  obtain ⟨G, hG⟩ : ∃ g, g = w6.heap.size := ⟨_, rfl⟩
  have HG := lh (show w.heap.size < G by omega)
  rw [← hG] at E ⊢
  clear hb7 hk7 hG hz6 hz00
  have hw := lh (show Deed.wf { dz with kind := K } from ⟨rfl, rfl⟩)
  have ps := dcs hw.out E.out.b0
  have ff := fun i => E.out.b0.frozen i
  have hlt := E.out.b0.lt
  go_wp2_with (fail)
  clear ps ff hlt
  replace E := lh (E.out.state HA.out)
  refine (csh K 1 _).mono ?_
  rintro e w9 ⟨rfl, hb9⟩
  rw [hasD_E K, FE]
  replace E := lh (E.out.below hb9)
  clear hb9
  have ps := dcs hw.out E.out.b0
  have ff := fun i => E.out.b0.frozen i
  have hlt := E.out.b0.lt
  go_wp2_with (fail)
  clear ps ff hlt
  refine (csh K 2 _).mono ?_
  rintro e w9 ⟨rfl, hb9⟩
  rw [hasD_N K, FN]
  replace E := lh (E.out.below hb9)
  clear hb9
  have ps := dcs hw.out E.out.b0
  have ff := fun i => E.out.b0.frozen i
  have hlt := E.out.b0.lt
  go_wp2_with (fail)
  clear ps ff hlt
  refine (csh K 4 _).mono ?_
  rintro e w9 ⟨rfl, hb9⟩
  rw [hasD_D K, FD]
  replace E := lh (E.out.below hb9)
  clear hb9
  go_wp2_with (fail)
  refine (c_octet_RNum p _ 5 _ E.out.rd).mono ?_
  rintro e w9 ⟨rfl, hr9, hk9⟩
  rw [← HD.out]
  replace E := lh ((E.out.call hr9 hk9).state (show _ = ddB st from rfl))
  clear hr9 hk9
  have ps := dcs hw.out E.out.b0
  have ff := fun i => E.out.b0.frozen i
  have hlt := E.out.b0.lt
  go_wp2_with (fail)
  clear ps ff hlt
  replace E := lh ((E.out.store0 2 (.int .i64 D)).as (show _ = Deed.arr { dz with kind := K, dev := D } wz from by have := Deed.setI hw.out (q := wz) 2 (by omega) D; simpa using this))
  replace hw := lh (show Deed.wf { dz with kind := K, dev := D } from ⟨hw.out.e, hw.out.p⟩)
  refine (csh K 8 _).mono ?_
  rintro e w9 ⟨rfl, hb9⟩
  rw [hasD_F K, FF]
  replace E := lh (E.out.below hb9)
  clear hb9
  have ps := dcs hw.out E.out.b0
  have ff := fun i => E.out.b0.frozen i
  have hlt := E.out.b0.lt
  go_wp2_with (fail)
  clear ps ff hlt
  refine (csh K 16 _).mono ?_
  rintro e w9 ⟨rfl, hb9⟩
  rw [hasD_W K, FW]
  replace E := lh (E.out.below hb9)
  clear hb9
  go_wp2_with (fail)
  refine (c_octet_RNum p _ 1073741823 _ E.out.rd).mono ?_
  rintro e w9 ⟨rfl, hr9, hk9⟩
  rw [← HI.out]
  replace E := lh ((E.out.call hr9 hk9).state (show _ = rdN' (ddB st) 1073741823 from rfl))
  clear hr9 hk9
  have ps := dcs hw.out E.out.b0
  have ff := fun i => E.out.b0.frozen i
  have hlt := E.out.b0.lt
  go_wp2_with (fail)
  clear ps ff hlt
  replace E := lh ((E.out.store0 3 (.int .i64 I)).as (show _ = Deed.arr { dz with kind := K, dev := D, id := I } wz from by have := Deed.setI hw.out (q := wz) 3 (by omega) I; simpa using this))
  replace hw := lh (show Deed.wf { dz with kind := K, dev := D, id := I } from ⟨hw.out.e, hw.out.p⟩)
  replace E := lh (E.out.state HI2.out)
  have HTw := lh (HT.out.kept E.out.kept hpT.out)
  refine (c_cardwire_Patch p _ _ HTw.out E.out.rd).mono ?_
  rintro e w9 ⟨rfl, hr9, hk9⟩
  rw [← HF.out]
  replace E := lh ((E.out.call hr9 hk9).state (show _ = rdPatch' (ddW st) from rfl))
  clear hr9 hk9
  go_wp2_with (with_reducible refine stS 28 (.tmp 53) (.tmp 52) rfl rfl ?_)
  refine Stop.mk (wpList_storeAt rfl _ _ _ rfl G 35 F.arr rfl rfl _ E.out.b0 strP (by rw [Patch.arr_size, HL.out]) (by rw [Patch.arr_size, HL.out, Deed.arr_size hw.out]; decide) (Patch.arr_one _) ?_)
  intro w20 hb20 hk20
  replace E := lh (E.out.put0 (show Blk w20 G (Deed.arr { dz with kind := K, dev := D, id := I, p := F } wz) by rw [← Deed.putP hw.out F HL.out]; exact hb20) hk20)
  replace hw := lh (show Deed.wf { dz with kind := K, dev := D, id := I, p := F } from ⟨hw.out.e, HL.out⟩)
  clear hb20 hk20
  clear HTw
  go_wp2_with (with_reducible refine slG 28 (.tmp 54) rfl ?_)
  refine Stop.mk (wlG (by rfl) _ _ rfl G 35 rfl F.arr (deed_patch hw.out E.out.b0) strP (by rw [Patch.arr_size, HL.out]) ?_)
  go_wp2_with (fail)
  refine (c_card_CheckPatch F _ HM.out HL.out HSZ.out).mono ?_
  rintro e w6 ⟨rfl, hb6⟩
  replace E := lh (E.out.below hb6)
  clear hb6
  have ps := dcs hw.out E.out.b0
  have ff := fun i => E.out.b0.frozen i
  have hlt := E.out.b0.lt
  go_wp2_with (fail)
  clear ps ff hlt
  refine (csh K 32 _).mono ?_
  rintro e w9 ⟨rfl, hb9⟩
  rw [hasD_K K, FK]
  replace E := lh (E.out.below hb9)
  clear hb9
  have ps := dcs hw.out E.out.b0
  have ff := fun i => E.out.b0.frozen i
  have hlt := E.out.b0.lt
  go_wp2_with (fail)
  clear ps ff hlt
  refine (csh K 64 _).mono ?_
  rintro e w9 ⟨rfl, hb9⟩
  rw [hasD_T K, FT]
  replace E := lh (E.out.below hb9)
  clear hb9
  have ps := dcs hw.out E.out.b0
  have ff := fun i => E.out.b0.frozen i
  have hlt := E.out.b0.lt
  go_wp2_with (with_reducible refine stop_load 38 (.tmp 3) rfl rfl ?_)
  clear ps ff hlt
  refine Stop.mk (wpList_loadB rfl _ _ rfl G rfl _ E.out.b0 strOp (Deed.arr_size hw.out) ?_)
  go_wp2_with (with_reducible refine stS 38 (.tmp 2) (.tmp 81) rfl rfl ?_)
  refine Stop.mk (wsB rfl _ _ _ rfl w.heap.size _ rfl rfl _ E.out.b1 strOp (Deed.arr_size hw.out) (by rw [Deed.arr_size hw.out]; rfl) (Deed.arr_ones hw.out) ?_)
  intro w99 hb99 hk99
  replace E := lh ((E.out.put1 hb99 hk99).state (show _ = rdDeed' st by rw [X1.out]))
  clear hk99
  go_wp2_with (fail)
  rw [X2.out]
  exact bodyPost_ret (results_B rfl rfl hb99 strOp (Deed.arr_size hw.out)) rfl ⟨wz, rfl, World.ownsRow_nil _ _ _ _, World.ownsRow_nil _ _ _ _, E.out.rd, E.out.kept⟩
set_option maxHeartbeats 40000000 in
set_option maxRecDepth 10000 in
theorem script_read_W2 (p : Option Nat) (st : Rd) (w : World) (hT : Tab w) (hr : RdP w p st) (hk0 : ddK st = 5) (hi0 : ¬ rdN (ddB st) 1073741823 = 0) (hc0 : ¬ (rdPatch (ddW st)).code = 0) : Calls Tryd.prog 44 #[ptr p] w (RetPD p (rdDeed' st) w (rdDeed st)) := by
  obtain ⟨x1, x2⟩ := dd_5 hk0
  obtain ⟨K, hK⟩ : ∃ K, K = ddK st := ⟨_, rfl⟩
  obtain ⟨D, hD⟩ : ∃ D, D = rdN (ddA st) 5 := ⟨_, rfl⟩
  have HD := lh hD
  obtain ⟨I, hI⟩ : ∃ D, D = rdN (ddB st) 1073741823 := ⟨_, rfl⟩
  have HI := lh hI
  obtain ⟨F, hF⟩ : ∃ D, D = rdPatch (ddW st) := ⟨_, rfl⟩
  have HF := lh hF
  rw [← hK] at hk0
  have FE : dE K = false := by unfold dE; simp; omega
  have FN : dN K = false := by unfold dN; simp; omega
  have FD : dD K = true := by unfold dD; simp; omega
  have FF : dF K = false := by unfold dF; simp; omega
  have FW : dW K = true := by unfold dW; simp; omega
  have FK : dK K = false := by unfold dK; simp; omega
  have FT : dT K = false := by unfold dT; simp; omega
  have j0 : (K == 0) = false := by simp; omega
  have X1 := lh x1
  have X2 := lh (show rdDeed st = { dz with kind := K, dev := D, id := I, p := F } by rw [x2, hk0, hD, hI, hF])
  have HK := lh (show rdN st 12 = K from hK.symm)
  have HA := lh (show rdN' st 12 = ddA st from (rdAb'_pos (by rw [show rdN st 12 = ddK st from rfl, ← hK]; omega)).symm)
  have hpT := lh (hr.tab hT)
  have HT := lh hT
  have HRD := lh hr
  have jI : (I == 0) = false := by rw [hI]; simpa using hi0
  have HI2 := lh (show rdN' (ddB st) 1073741823 = ddW st from (rdAb'_pos hi0).symm)
  have jC : (F.code != 0) = true := by rw [hF]; simpa using hc0
  have HL := lh (show F.f.length = 8 by rw [hF]; exact rdPatch_len _)
  have HM := lh (show F.mask < 4294967296 by rw [hF]; have := (rdPatch_mask (ddW st)).1; omega)
  have HSZ := lh (show ∀ x ∈ F.f, x.s.length ≤ 4294967000 by rw [hF]; exact rdPatch_sizes _)
  have HE := lh (show (rdPatch' (ddW st)).e ≠ 0 from fun h0 => hc0 (rdPatch_took h0).2.1)
  clear hi0 hc0
  clear x1 hk0 hr hT hK x2 hD hI hF
  go_enter Tryd.func44, Tryd.ntmps44
  go_wp2_with (with_reducible refine stop_callS _ rfl ?_)
  refine Stop.mk (EnvP.go HRD.out ?_)
  intro w00 he00 hz00
  have E := lh he00
  clear he00
  go_wp2_with (fail)
  refine (c_octet_RNum p st 12 _ E.out.rd).mono ?_
  rintro e w6 ⟨rfl, hr6, hk6⟩
  rw [HK.out]
  have hz6 := hk6.size
  replace E := lh (E.out.call hr6 hk6)
  clear hr6 hk6
  go_wp2_with (with_reducible refine stop_build 38 _ rfl ?_)
  refine Stop.mk (wpList_buildD rfl _ _ rfl [(0, .int .i64 K)] (by rfl) (Deed.arr { dz with kind := K } wz) (built_kind K) ?_)
  go_wp2_with (with_reducible refine stS 38 (.tmp 3) (.tmp 6) rfl rfl ?_)
  refine Stop.mk (wsB rfl _ _ _ rfl w6.heap.size _ (by first | rfl | simp) rfl _ (Blk.new _ _ _) strOp (Deed.arr_size ⟨rfl, rfl⟩) (by rw [Deed.arr_size ⟨rfl, rfl⟩]; rfl) (Deed.arr_ones ⟨rfl, rfl⟩) ?_)
  intro w7 hb7 hk7
  replace E := lh ((E.out.alloc 38 _).put0 hb7 hk7)
  obtain ⟨G, hG⟩ : ∃ g, g = w6.heap.size := ⟨_, rfl⟩
  have HG := lh (show w.heap.size < G by omega)
  rw [← hG] at E ⊢
  clear hb7 hk7 hG hz6 hz00
  have hw := lh (show Deed.wf { dz with kind := K } from ⟨rfl, rfl⟩)
  have ps := dcs hw.out E.out.b0
  have ff := fun i => E.out.b0.frozen i
  have hlt := E.out.b0.lt
  go_wp2_with (fail)
  clear ps ff hlt
  replace E := lh (E.out.state HA.out)
  refine (csh K 1 _).mono ?_
  rintro e w9 ⟨rfl, hb9⟩
  rw [hasD_E K, FE]
  replace E := lh (E.out.below hb9)
  clear hb9
  have ps := dcs hw.out E.out.b0
  have ff := fun i => E.out.b0.frozen i
  have hlt := E.out.b0.lt
  go_wp2_with (fail)
  clear ps ff hlt
  refine (csh K 2 _).mono ?_
  rintro e w9 ⟨rfl, hb9⟩
  rw [hasD_N K, FN]
  replace E := lh (E.out.below hb9)
  clear hb9
  have ps := dcs hw.out E.out.b0
  have ff := fun i => E.out.b0.frozen i
  have hlt := E.out.b0.lt
  go_wp2_with (fail)
  clear ps ff hlt
  refine (csh K 4 _).mono ?_
  rintro e w9 ⟨rfl, hb9⟩
  rw [hasD_D K, FD]
  replace E := lh (E.out.below hb9)
  clear hb9
  go_wp2_with (fail)
  refine (c_octet_RNum p _ 5 _ E.out.rd).mono ?_
  rintro e w9 ⟨rfl, hr9, hk9⟩
  rw [← HD.out]
  replace E := lh ((E.out.call hr9 hk9).state (show _ = ddB st from rfl))
  clear hr9 hk9
  have ps := dcs hw.out E.out.b0
  have ff := fun i => E.out.b0.frozen i
  have hlt := E.out.b0.lt
  go_wp2_with (fail)
  clear ps ff hlt
  replace E := lh ((E.out.store0 2 (.int .i64 D)).as (show _ = Deed.arr { dz with kind := K, dev := D } wz from by have := Deed.setI hw.out (q := wz) 2 (by omega) D; simpa using this))
  replace hw := lh (show Deed.wf { dz with kind := K, dev := D } from ⟨hw.out.e, hw.out.p⟩)
  refine (csh K 8 _).mono ?_
  rintro e w9 ⟨rfl, hb9⟩
  rw [hasD_F K, FF]
  replace E := lh (E.out.below hb9)
  clear hb9
  have ps := dcs hw.out E.out.b0
  have ff := fun i => E.out.b0.frozen i
  have hlt := E.out.b0.lt
  go_wp2_with (fail)
  clear ps ff hlt
  refine (csh K 16 _).mono ?_
  rintro e w9 ⟨rfl, hb9⟩
  rw [hasD_W K, FW]
  replace E := lh (E.out.below hb9)
  clear hb9
  go_wp2_with (fail)
  refine (c_octet_RNum p _ 1073741823 _ E.out.rd).mono ?_
  rintro e w9 ⟨rfl, hr9, hk9⟩
  rw [← HI.out]
  replace E := lh ((E.out.call hr9 hk9).state (show _ = rdN' (ddB st) 1073741823 from rfl))
  clear hr9 hk9
  have ps := dcs hw.out E.out.b0
  have ff := fun i => E.out.b0.frozen i
  have hlt := E.out.b0.lt
  go_wp2_with (fail)
  clear ps ff hlt
  replace E := lh ((E.out.store0 3 (.int .i64 I)).as (show _ = Deed.arr { dz with kind := K, dev := D, id := I } wz from by have := Deed.setI hw.out (q := wz) 3 (by omega) I; simpa using this))
  replace hw := lh (show Deed.wf { dz with kind := K, dev := D, id := I } from ⟨hw.out.e, hw.out.p⟩)
  replace E := lh (E.out.state HI2.out)
  have HTw := lh (HT.out.kept E.out.kept hpT.out)
  refine (c_cardwire_Patch p _ _ HTw.out E.out.rd).mono ?_
  rintro e w9 ⟨rfl, hr9, hk9⟩
  rw [← HF.out]
  replace E := lh ((E.out.call hr9 hk9).state (show _ = rdPatch' (ddW st) from rfl))
  clear hr9 hk9
  go_wp2_with (with_reducible refine stS 28 (.tmp 53) (.tmp 52) rfl rfl ?_)
  refine Stop.mk (wpList_storeAt rfl _ _ _ rfl G 35 F.arr rfl rfl _ E.out.b0 strP (by rw [Patch.arr_size, HL.out]) (by rw [Patch.arr_size, HL.out, Deed.arr_size hw.out]; decide) (Patch.arr_one _) ?_)
  intro w20 hb20 hk20
  replace E := lh (E.out.put0 (show Blk w20 G (Deed.arr { dz with kind := K, dev := D, id := I, p := F } wz) by rw [← Deed.putP hw.out F HL.out]; exact hb20) hk20)
  replace hw := lh (show Deed.wf { dz with kind := K, dev := D, id := I, p := F } from ⟨hw.out.e, HL.out⟩)
  clear hb20 hk20
  clear HTw
  go_wp2_with (with_reducible refine slG 28 (.tmp 54) rfl ?_)
  refine Stop.mk (wlG (by rfl) _ _ rfl G 35 rfl F.arr (deed_patch hw.out E.out.b0) strP (by rw [Patch.arr_size, HL.out]) ?_)
  go_wp2_with (fail)
  refine (c_card_CheckPatch F _ HM.out HL.out HSZ.out).mono ?_
  rintro e w6 ⟨rfl, hb6⟩
  replace E := lh (E.out.below hb6)
  clear hb6
  go_wp2_with (fail)
  refine (c_octet_Fail p _ 3 _ E.out.rd).mono ?_
  rintro e w9 ⟨rfl, hr9, hk9⟩
  replace E := lh ((E.out.call hr9 hk9).state (show _ = rdPatch' (ddW st) from rdF_err HE.out))
  clear hr9 hk9
  have ps := dcs hw.out E.out.b0
  have ff := fun i => E.out.b0.frozen i
  have hlt := E.out.b0.lt
  go_wp2_with (fail)
  clear ps ff hlt
  refine (csh K 32 _).mono ?_
  rintro e w9 ⟨rfl, hb9⟩
  rw [hasD_K K, FK]
  replace E := lh (E.out.below hb9)
  clear hb9
  have ps := dcs hw.out E.out.b0
  have ff := fun i => E.out.b0.frozen i
  have hlt := E.out.b0.lt
  go_wp2_with (fail)
  clear ps ff hlt
  refine (csh K 64 _).mono ?_
  rintro e w9 ⟨rfl, hb9⟩
  rw [hasD_T K, FT]
  replace E := lh (E.out.below hb9)
  clear hb9
  have ps := dcs hw.out E.out.b0
  have ff := fun i => E.out.b0.frozen i
  have hlt := E.out.b0.lt
  go_wp2_with (with_reducible refine stop_load 38 (.tmp 3) rfl rfl ?_)
  clear ps ff hlt
  refine Stop.mk (wpList_loadB rfl _ _ rfl G rfl _ E.out.b0 strOp (Deed.arr_size hw.out) ?_)
  go_wp2_with (with_reducible refine stS 38 (.tmp 2) (.tmp 81) rfl rfl ?_)
  refine Stop.mk (wsB rfl _ _ _ rfl w.heap.size _ rfl rfl _ E.out.b1 strOp (Deed.arr_size hw.out) (by rw [Deed.arr_size hw.out]; rfl) (Deed.arr_ones hw.out) ?_)
  intro w99 hb99 hk99
  replace E := lh ((E.out.put1 hb99 hk99).state (show _ = rdDeed' st by rw [X1.out]))
  clear hk99
  go_wp2_with (fail)
  rw [X2.out]
  exact bodyPost_ret (results_B rfl rfl hb99 strOp (Deed.arr_size hw.out)) rfl ⟨wz, rfl, World.ownsRow_nil _ _ _ _, World.ownsRow_nil _ _ _ _, E.out.rd, E.out.kept⟩
set_option maxHeartbeats 40000000 in
set_option maxRecDepth 10000 in
theorem script_read_W3 (p : Option Nat) (st : Rd) (w : World) (hT : Tab w) (hr : RdP w p st) (hk0 : ddK st = 5) (hi0 : rdN (ddB st) 1073741823 = 0) (hc0 : (rdPatch (ddW st)).code = 0) : Calls Tryd.prog 44 #[ptr p] w (RetPD p (rdDeed' st) w (rdDeed st)) := by
  obtain ⟨x1, x2⟩ := dd_5 hk0
  obtain ⟨K, hK⟩ : ∃ K, K = ddK st := ⟨_, rfl⟩
  obtain ⟨D, hD⟩ : ∃ D, D = rdN (ddA st) 5 := ⟨_, rfl⟩
  have HD := lh hD
  obtain ⟨I, hI⟩ : ∃ D, D = rdN (ddB st) 1073741823 := ⟨_, rfl⟩
  have HI := lh hI
  obtain ⟨F, hF⟩ : ∃ D, D = rdPatch (ddW st) := ⟨_, rfl⟩
  have HF := lh hF
  rw [← hK] at hk0
  have FE : dE K = false := by unfold dE; simp; omega
  have FN : dN K = false := by unfold dN; simp; omega
  have FD : dD K = true := by unfold dD; simp; omega
  have FF : dF K = false := by unfold dF; simp; omega
  have FW : dW K = true := by unfold dW; simp; omega
  have FK : dK K = false := by unfold dK; simp; omega
  have FT : dT K = false := by unfold dT; simp; omega
  have j0 : (K == 0) = false := by simp; omega
  have X1 := lh x1
  have X2 := lh (show rdDeed st = { dz with kind := K, dev := D, id := I, p := F } by rw [x2, hk0, hD, hI, hF])
  have HK := lh (show rdN st 12 = K from hK.symm)
  have HA := lh (show rdN' st 12 = ddA st from (rdAb'_pos (by rw [show rdN st 12 = ddK st from rfl, ← hK]; omega)).symm)
  have hpT := lh (hr.tab hT)
  have HT := lh hT
  have HRD := lh hr
  have jI : (I == 0) = true := by rw [hI]; simpa using hi0
  have HI2 := lh (show rdF (rdN' (ddB st) 1073741823) 3 = ddW st from (rdAb'_zero hi0).symm)
  have jC : (F.code != 0) = false := by rw [hF]; simpa using hc0
  have HL := lh (show F.f.length = 8 by rw [hF]; exact rdPatch_len _)
  have HM := lh (show F.mask < 4294967296 by rw [hF]; have := (rdPatch_mask (ddW st)).1; omega)
  have HSZ := lh (show ∀ x ∈ F.f, x.s.length ≤ 4294967000 by rw [hF]; exact rdPatch_sizes _)
  clear hi0 hc0
  clear x1 hk0 hr hT hK x2 hD hI hF
  go_enter Tryd.func44, Tryd.ntmps44
  go_wp2_with (with_reducible refine stop_callS _ rfl ?_)
  refine Stop.mk (EnvP.go HRD.out ?_)
  intro w00 he00 hz00
  have E := lh he00
  clear he00
  go_wp2_with (fail)
  refine (c_octet_RNum p st 12 _ E.out.rd).mono ?_
  rintro e w6 ⟨rfl, hr6, hk6⟩
  rw [HK.out]
  have hz6 := hk6.size
  replace E := lh (E.out.call hr6 hk6)
  clear hr6 hk6
  go_wp2_with (with_reducible refine stop_build 38 _ rfl ?_)
  refine Stop.mk (wpList_buildD rfl _ _ rfl [(0, .int .i64 K)] (by rfl) (Deed.arr { dz with kind := K } wz) (built_kind K) ?_)
  go_wp2_with (with_reducible refine stS 38 (.tmp 3) (.tmp 6) rfl rfl ?_)
  refine Stop.mk (wsB rfl _ _ _ rfl w6.heap.size _ (by first | rfl | simp) rfl _ (Blk.new _ _ _) strOp (Deed.arr_size ⟨rfl, rfl⟩) (by rw [Deed.arr_size ⟨rfl, rfl⟩]; rfl) (Deed.arr_ones ⟨rfl, rfl⟩) ?_)
  intro w7 hb7 hk7
  replace E := lh ((E.out.alloc 38 _).put0 hb7 hk7)
  obtain ⟨G, hG⟩ : ∃ g, g = w6.heap.size := ⟨_, rfl⟩
  have HG := lh (show w.heap.size < G by omega)
  rw [← hG] at E ⊢
  clear hb7 hk7 hG hz6 hz00
  have hw := lh (show Deed.wf { dz with kind := K } from ⟨rfl, rfl⟩)
  have ps := dcs hw.out E.out.b0
  have ff := fun i => E.out.b0.frozen i
  have hlt := E.out.b0.lt
  go_wp2_with (fail)
  clear ps ff hlt
  replace E := lh (E.out.state HA.out)
  refine (csh K 1 _).mono ?_
  rintro e w9 ⟨rfl, hb9⟩
  rw [hasD_E K, FE]
  replace E := lh (E.out.below hb9)
  clear hb9
  have ps := dcs hw.out E.out.b0
  have ff := fun i => E.out.b0.frozen i
  have hlt := E.out.b0.lt
  go_wp2_with (fail)
  clear ps ff hlt
  refine (csh K 2 _).mono ?_
  rintro e w9 ⟨rfl, hb9⟩
  rw [hasD_N K, FN]
  replace E := lh (E.out.below hb9)
  clear hb9
  have ps := dcs hw.out E.out.b0
  have ff := fun i => E.out.b0.frozen i
  have hlt := E.out.b0.lt
  go_wp2_with (fail)
  clear ps ff hlt
  refine (csh K 4 _).mono ?_
  rintro e w9 ⟨rfl, hb9⟩
  rw [hasD_D K, FD]
  replace E := lh (E.out.below hb9)
  clear hb9
  go_wp2_with (fail)
  refine (c_octet_RNum p _ 5 _ E.out.rd).mono ?_
  rintro e w9 ⟨rfl, hr9, hk9⟩
  rw [← HD.out]
  replace E := lh ((E.out.call hr9 hk9).state (show _ = ddB st from rfl))
  clear hr9 hk9
  have ps := dcs hw.out E.out.b0
  have ff := fun i => E.out.b0.frozen i
  have hlt := E.out.b0.lt
  go_wp2_with (fail)
  clear ps ff hlt
  replace E := lh ((E.out.store0 2 (.int .i64 D)).as (show _ = Deed.arr { dz with kind := K, dev := D } wz from by have := Deed.setI hw.out (q := wz) 2 (by omega) D; simpa using this))
  replace hw := lh (show Deed.wf { dz with kind := K, dev := D } from ⟨hw.out.e, hw.out.p⟩)
  refine (csh K 8 _).mono ?_
  rintro e w9 ⟨rfl, hb9⟩
  rw [hasD_F K, FF]
  replace E := lh (E.out.below hb9)
  clear hb9
  have ps := dcs hw.out E.out.b0
  have ff := fun i => E.out.b0.frozen i
  have hlt := E.out.b0.lt
  go_wp2_with (fail)
  clear ps ff hlt
  refine (csh K 16 _).mono ?_
  rintro e w9 ⟨rfl, hb9⟩
  rw [hasD_W K, FW]
  replace E := lh (E.out.below hb9)
  clear hb9
  go_wp2_with (fail)
  refine (c_octet_RNum p _ 1073741823 _ E.out.rd).mono ?_
  rintro e w9 ⟨rfl, hr9, hk9⟩
  rw [← HI.out]
  replace E := lh ((E.out.call hr9 hk9).state (show _ = rdN' (ddB st) 1073741823 from rfl))
  clear hr9 hk9
  have ps := dcs hw.out E.out.b0
  have ff := fun i => E.out.b0.frozen i
  have hlt := E.out.b0.lt
  go_wp2_with (fail)
  clear ps ff hlt
  replace E := lh ((E.out.store0 3 (.int .i64 I)).as (show _ = Deed.arr { dz with kind := K, dev := D, id := I } wz from by have := Deed.setI hw.out (q := wz) 3 (by omega) I; simpa using this))
  replace hw := lh (show Deed.wf { dz with kind := K, dev := D, id := I } from ⟨hw.out.e, hw.out.p⟩)
  refine (c_octet_Fail p _ 3 _ E.out.rd).mono ?_
  rintro e w9 ⟨rfl, hr9, hk9⟩
  replace E := lh ((E.out.call hr9 hk9).state (show _ = ddW st from HI2.out))
  clear hr9 hk9
  go_wp2_with (fail)
  have HTw := lh (HT.out.kept E.out.kept hpT.out)
  refine (c_cardwire_Patch p _ _ HTw.out E.out.rd).mono ?_
  rintro e w9 ⟨rfl, hr9, hk9⟩
  rw [← HF.out]
  replace E := lh ((E.out.call hr9 hk9).state (show _ = rdPatch' (ddW st) from rfl))
  clear hr9 hk9
  go_wp2_with (with_reducible refine stS 28 (.tmp 53) (.tmp 52) rfl rfl ?_)
  refine Stop.mk (wpList_storeAt rfl _ _ _ rfl G 35 F.arr rfl rfl _ E.out.b0 strP (by rw [Patch.arr_size, HL.out]) (by rw [Patch.arr_size, HL.out, Deed.arr_size hw.out]; decide) (Patch.arr_one _) ?_)
  intro w20 hb20 hk20
  replace E := lh (E.out.put0 (show Blk w20 G (Deed.arr { dz with kind := K, dev := D, id := I, p := F } wz) by rw [← Deed.putP hw.out F HL.out]; exact hb20) hk20)
  replace hw := lh (show Deed.wf { dz with kind := K, dev := D, id := I, p := F } from ⟨hw.out.e, HL.out⟩)
  clear hb20 hk20
  clear HTw
  go_wp2_with (with_reducible refine slG 28 (.tmp 54) rfl ?_)
  refine Stop.mk (wlG (by rfl) _ _ rfl G 35 rfl F.arr (deed_patch hw.out E.out.b0) strP (by rw [Patch.arr_size, HL.out]) ?_)
  go_wp2_with (fail)
  refine (c_card_CheckPatch F _ HM.out HL.out HSZ.out).mono ?_
  rintro e w6 ⟨rfl, hb6⟩
  replace E := lh (E.out.below hb6)
  clear hb6
  have ps := dcs hw.out E.out.b0
  have ff := fun i => E.out.b0.frozen i
  have hlt := E.out.b0.lt
  go_wp2_with (fail)
  clear ps ff hlt
  refine (csh K 32 _).mono ?_
  rintro e w9 ⟨rfl, hb9⟩
  rw [hasD_K K, FK]
  replace E := lh (E.out.below hb9)
  clear hb9
  have ps := dcs hw.out E.out.b0
  have ff := fun i => E.out.b0.frozen i
  have hlt := E.out.b0.lt
  go_wp2_with (fail)
  clear ps ff hlt
  refine (csh K 64 _).mono ?_
  rintro e w9 ⟨rfl, hb9⟩
  rw [hasD_T K, FT]
  replace E := lh (E.out.below hb9)
  clear hb9
  have ps := dcs hw.out E.out.b0
  have ff := fun i => E.out.b0.frozen i
  have hlt := E.out.b0.lt
  go_wp2_with (with_reducible refine stop_load 38 (.tmp 3) rfl rfl ?_)
  clear ps ff hlt
  refine Stop.mk (wpList_loadB rfl _ _ rfl G rfl _ E.out.b0 strOp (Deed.arr_size hw.out) ?_)
  go_wp2_with (with_reducible refine stS 38 (.tmp 2) (.tmp 81) rfl rfl ?_)
  refine Stop.mk (wsB rfl _ _ _ rfl w.heap.size _ rfl rfl _ E.out.b1 strOp (Deed.arr_size hw.out) (by rw [Deed.arr_size hw.out]; rfl) (Deed.arr_ones hw.out) ?_)
  intro w99 hb99 hk99
  replace E := lh ((E.out.put1 hb99 hk99).state (show _ = rdDeed' st by rw [X1.out]))
  clear hk99
  go_wp2_with (fail)
  rw [X2.out]
  exact bodyPost_ret (results_B rfl rfl hb99 strOp (Deed.arr_size hw.out)) rfl ⟨wz, rfl, World.ownsRow_nil _ _ _ _, World.ownsRow_nil _ _ _ _, E.out.rd, E.out.kept⟩
set_option maxHeartbeats 40000000 in
set_option maxRecDepth 10000 in
theorem script_read_W4 (p : Option Nat) (st : Rd) (w : World) (hT : Tab w) (hr : RdP w p st) (hk0 : ddK st = 5) (hi0 : rdN (ddB st) 1073741823 = 0) (hc0 : ¬ (rdPatch (ddW st)).code = 0) : Calls Tryd.prog 44 #[ptr p] w (RetPD p (rdDeed' st) w (rdDeed st)) := by
  obtain ⟨x1, x2⟩ := dd_5 hk0
  obtain ⟨K, hK⟩ : ∃ K, K = ddK st := ⟨_, rfl⟩
  obtain ⟨D, hD⟩ : ∃ D, D = rdN (ddA st) 5 := ⟨_, rfl⟩
  have HD := lh hD
  obtain ⟨I, hI⟩ : ∃ D, D = rdN (ddB st) 1073741823 := ⟨_, rfl⟩
  have HI := lh hI
  obtain ⟨F, hF⟩ : ∃ D, D = rdPatch (ddW st) := ⟨_, rfl⟩
  have HF := lh hF
  rw [← hK] at hk0
  have FE : dE K = false := by unfold dE; simp; omega
  have FN : dN K = false := by unfold dN; simp; omega
  have FD : dD K = true := by unfold dD; simp; omega
  have FF : dF K = false := by unfold dF; simp; omega
  have FW : dW K = true := by unfold dW; simp; omega
  have FK : dK K = false := by unfold dK; simp; omega
  have FT : dT K = false := by unfold dT; simp; omega
  have j0 : (K == 0) = false := by simp; omega
  have X1 := lh x1
  have X2 := lh (show rdDeed st = { dz with kind := K, dev := D, id := I, p := F } by rw [x2, hk0, hD, hI, hF])
  have HK := lh (show rdN st 12 = K from hK.symm)
  have HA := lh (show rdN' st 12 = ddA st from (rdAb'_pos (by rw [show rdN st 12 = ddK st from rfl, ← hK]; omega)).symm)
  have hpT := lh (hr.tab hT)
  have HT := lh hT
  have HRD := lh hr
  have jI : (I == 0) = true := by rw [hI]; simpa using hi0
  have HI2 := lh (show rdF (rdN' (ddB st) 1073741823) 3 = ddW st from (rdAb'_zero hi0).symm)
  have jC : (F.code != 0) = true := by rw [hF]; simpa using hc0
  have HL := lh (show F.f.length = 8 by rw [hF]; exact rdPatch_len _)
  have HM := lh (show F.mask < 4294967296 by rw [hF]; have := (rdPatch_mask (ddW st)).1; omega)
  have HSZ := lh (show ∀ x ∈ F.f, x.s.length ≤ 4294967000 by rw [hF]; exact rdPatch_sizes _)
  have HE := lh (show (rdPatch' (ddW st)).e ≠ 0 from fun h0 => hc0 (rdPatch_took h0).2.1)
  clear hi0 hc0
  clear x1 hk0 hr hT hK x2 hD hI hF
  go_enter Tryd.func44, Tryd.ntmps44
  go_wp2_with (with_reducible refine stop_callS _ rfl ?_)
  refine Stop.mk (EnvP.go HRD.out ?_)
  intro w00 he00 hz00
  have E := lh he00
  clear he00
  go_wp2_with (fail)
  refine (c_octet_RNum p st 12 _ E.out.rd).mono ?_
  rintro e w6 ⟨rfl, hr6, hk6⟩
  rw [HK.out]
  have hz6 := hk6.size
  replace E := lh (E.out.call hr6 hk6)
  clear hr6 hk6
  go_wp2_with (with_reducible refine stop_build 38 _ rfl ?_)
  refine Stop.mk (wpList_buildD rfl _ _ rfl [(0, .int .i64 K)] (by rfl) (Deed.arr { dz with kind := K } wz) (built_kind K) ?_)
  go_wp2_with (with_reducible refine stS 38 (.tmp 3) (.tmp 6) rfl rfl ?_)
  refine Stop.mk (wsB rfl _ _ _ rfl w6.heap.size _ (by first | rfl | simp) rfl _ (Blk.new _ _ _) strOp (Deed.arr_size ⟨rfl, rfl⟩) (by rw [Deed.arr_size ⟨rfl, rfl⟩]; rfl) (Deed.arr_ones ⟨rfl, rfl⟩) ?_)
  intro w7 hb7 hk7
  replace E := lh ((E.out.alloc 38 _).put0 hb7 hk7)
  obtain ⟨G, hG⟩ : ∃ g, g = w6.heap.size := ⟨_, rfl⟩
  have HG := lh (show w.heap.size < G by omega)
  rw [← hG] at E ⊢
  clear hb7 hk7 hG hz6 hz00
  have hw := lh (show Deed.wf { dz with kind := K } from ⟨rfl, rfl⟩)
  have ps := dcs hw.out E.out.b0
  have ff := fun i => E.out.b0.frozen i
  have hlt := E.out.b0.lt
  go_wp2_with (fail)
  clear ps ff hlt
  replace E := lh (E.out.state HA.out)
  refine (csh K 1 _).mono ?_
  rintro e w9 ⟨rfl, hb9⟩
  rw [hasD_E K, FE]
  replace E := lh (E.out.below hb9)
  clear hb9
  have ps := dcs hw.out E.out.b0
  have ff := fun i => E.out.b0.frozen i
  have hlt := E.out.b0.lt
  go_wp2_with (fail)
  clear ps ff hlt
  refine (csh K 2 _).mono ?_
  rintro e w9 ⟨rfl, hb9⟩
  rw [hasD_N K, FN]
  replace E := lh (E.out.below hb9)
  clear hb9
  have ps := dcs hw.out E.out.b0
  have ff := fun i => E.out.b0.frozen i
  have hlt := E.out.b0.lt
  go_wp2_with (fail)
  clear ps ff hlt
  refine (csh K 4 _).mono ?_
  rintro e w9 ⟨rfl, hb9⟩
  rw [hasD_D K, FD]
  replace E := lh (E.out.below hb9)
  clear hb9
  go_wp2_with (fail)
  refine (c_octet_RNum p _ 5 _ E.out.rd).mono ?_
  rintro e w9 ⟨rfl, hr9, hk9⟩
  rw [← HD.out]
  replace E := lh ((E.out.call hr9 hk9).state (show _ = ddB st from rfl))
  clear hr9 hk9
  have ps := dcs hw.out E.out.b0
  have ff := fun i => E.out.b0.frozen i
  have hlt := E.out.b0.lt
  go_wp2_with (fail)
  clear ps ff hlt
  replace E := lh ((E.out.store0 2 (.int .i64 D)).as (show _ = Deed.arr { dz with kind := K, dev := D } wz from by have := Deed.setI hw.out (q := wz) 2 (by omega) D; simpa using this))
  replace hw := lh (show Deed.wf { dz with kind := K, dev := D } from ⟨hw.out.e, hw.out.p⟩)
  refine (csh K 8 _).mono ?_
  rintro e w9 ⟨rfl, hb9⟩
  rw [hasD_F K, FF]
  replace E := lh (E.out.below hb9)
  clear hb9
  have ps := dcs hw.out E.out.b0
  have ff := fun i => E.out.b0.frozen i
  have hlt := E.out.b0.lt
  go_wp2_with (fail)
  clear ps ff hlt
  refine (csh K 16 _).mono ?_
  rintro e w9 ⟨rfl, hb9⟩
  rw [hasD_W K, FW]
  replace E := lh (E.out.below hb9)
  clear hb9
  go_wp2_with (fail)
  refine (c_octet_RNum p _ 1073741823 _ E.out.rd).mono ?_
  rintro e w9 ⟨rfl, hr9, hk9⟩
  rw [← HI.out]
  replace E := lh ((E.out.call hr9 hk9).state (show _ = rdN' (ddB st) 1073741823 from rfl))
  clear hr9 hk9
  have ps := dcs hw.out E.out.b0
  have ff := fun i => E.out.b0.frozen i
  have hlt := E.out.b0.lt
  go_wp2_with (fail)
  clear ps ff hlt
  replace E := lh ((E.out.store0 3 (.int .i64 I)).as (show _ = Deed.arr { dz with kind := K, dev := D, id := I } wz from by have := Deed.setI hw.out (q := wz) 3 (by omega) I; simpa using this))
  replace hw := lh (show Deed.wf { dz with kind := K, dev := D, id := I } from ⟨hw.out.e, hw.out.p⟩)
  refine (c_octet_Fail p _ 3 _ E.out.rd).mono ?_
  rintro e w9 ⟨rfl, hr9, hk9⟩
  replace E := lh ((E.out.call hr9 hk9).state (show _ = ddW st from HI2.out))
  clear hr9 hk9
  go_wp2_with (fail)
  have HTw := lh (HT.out.kept E.out.kept hpT.out)
  refine (c_cardwire_Patch p _ _ HTw.out E.out.rd).mono ?_
  rintro e w9 ⟨rfl, hr9, hk9⟩
  rw [← HF.out]
  replace E := lh ((E.out.call hr9 hk9).state (show _ = rdPatch' (ddW st) from rfl))
  clear hr9 hk9
  go_wp2_with (with_reducible refine stS 28 (.tmp 53) (.tmp 52) rfl rfl ?_)
  refine Stop.mk (wpList_storeAt rfl _ _ _ rfl G 35 F.arr rfl rfl _ E.out.b0 strP (by rw [Patch.arr_size, HL.out]) (by rw [Patch.arr_size, HL.out, Deed.arr_size hw.out]; decide) (Patch.arr_one _) ?_)
  intro w20 hb20 hk20
  replace E := lh (E.out.put0 (show Blk w20 G (Deed.arr { dz with kind := K, dev := D, id := I, p := F } wz) by rw [← Deed.putP hw.out F HL.out]; exact hb20) hk20)
  replace hw := lh (show Deed.wf { dz with kind := K, dev := D, id := I, p := F } from ⟨hw.out.e, HL.out⟩)
  clear hb20 hk20
  clear HTw
  go_wp2_with (with_reducible refine slG 28 (.tmp 54) rfl ?_)
  refine Stop.mk (wlG (by rfl) _ _ rfl G 35 rfl F.arr (deed_patch hw.out E.out.b0) strP (by rw [Patch.arr_size, HL.out]) ?_)
  go_wp2_with (fail)
  refine (c_card_CheckPatch F _ HM.out HL.out HSZ.out).mono ?_
  rintro e w6 ⟨rfl, hb6⟩
  replace E := lh (E.out.below hb6)
  clear hb6
  go_wp2_with (fail)
  refine (c_octet_Fail p _ 3 _ E.out.rd).mono ?_
  rintro e w9 ⟨rfl, hr9, hk9⟩
  replace E := lh ((E.out.call hr9 hk9).state (show _ = rdPatch' (ddW st) from rdF_err HE.out))
  clear hr9 hk9
  have ps := dcs hw.out E.out.b0
  have ff := fun i => E.out.b0.frozen i
  have hlt := E.out.b0.lt
  go_wp2_with (fail)
  clear ps ff hlt
  refine (csh K 32 _).mono ?_
  rintro e w9 ⟨rfl, hb9⟩
  rw [hasD_K K, FK]
  replace E := lh (E.out.below hb9)
  clear hb9
  have ps := dcs hw.out E.out.b0
  have ff := fun i => E.out.b0.frozen i
  have hlt := E.out.b0.lt
  go_wp2_with (fail)
  clear ps ff hlt
  refine (csh K 64 _).mono ?_
  rintro e w9 ⟨rfl, hb9⟩
  rw [hasD_T K, FT]
  replace E := lh (E.out.below hb9)
  clear hb9
  have ps := dcs hw.out E.out.b0
  have ff := fun i => E.out.b0.frozen i
  have hlt := E.out.b0.lt
  go_wp2_with (with_reducible refine stop_load 38 (.tmp 3) rfl rfl ?_)
  clear ps ff hlt
  refine Stop.mk (wpList_loadB rfl _ _ rfl G rfl _ E.out.b0 strOp (Deed.arr_size hw.out) ?_)
  go_wp2_with (with_reducible refine stS 38 (.tmp 2) (.tmp 81) rfl rfl ?_)
  refine Stop.mk (wsB rfl _ _ _ rfl w.heap.size _ rfl rfl _ E.out.b1 strOp (Deed.arr_size hw.out) (by rw [Deed.arr_size hw.out]; rfl) (Deed.arr_ones hw.out) ?_)
  intro w99 hb99 hk99
  replace E := lh ((E.out.put1 hb99 hk99).state (show _ = rdDeed' st by rw [X1.out]))
  clear hk99
  go_wp2_with (fail)
  rw [X2.out]
  exact bodyPost_ret (results_B rfl rfl hb99 strOp (Deed.arr_size hw.out)) rfl ⟨wz, rfl, World.ownsRow_nil _ _ _ _, World.ownsRow_nil _ _ _ _, E.out.rd, E.out.kept⟩
open Go.RowKit

theorem c_script_read (p : Option Nat) (st : Rd) (w : World) (hT : Tab w) (hr : RdP w p st) : Calls Tryd.prog 44 #[ptr p] w (RetPD p (rdDeed' st) w (rdDeed st)) := by
  rcases ddK_cases st with h | h | h | h | h | h | h | h
  · exact script_read_Z p st w hT hr h
  · exact script_read_E p st w hT hr h
  · exact script_read_N p st w hT hr (by unfold dN at h; simp only [decide_eq_true_eq] at h; omega)
  · exact script_read_F p st w hT hr h
  · exact script_read_D p st w hT hr h
  · by_cases hi : rdN (ddB st) 1073741823 = 0
    · by_cases hc : (rdPatch (ddW st)).code = 0
      · exact script_read_W3 p st w hT hr h hi hc
      · exact script_read_W4 p st w hT hr h hi hc
    · by_cases hc : (rdPatch (ddW st)).code = 0
      · exact script_read_W1 p st w hT hr h hi hc
      · exact script_read_W2 p st w hT hr h hi hc
  · exact script_read_K p st w hT hr h
  · exact script_read_T p st w hT hr h
open Go.RowKit

theorem stop_conv {P : Program} {w : World} {ops : Array Oper} {rest : List Oper} {o : Oper} {a : Act} {Q : Exit → Act → World → Prop} (src dst : TypeId) (x : Operand) (_ : o.op = .convert src dst x) (h : Stop (wpList P ops Q (o :: rest) a w)) : wpList P ops Q (o :: rest) a w := h
theorem wpList_toBytes {P : Program} {w : World} {ops : Array Oper} {rest : List Oper} {o : Oper} {a : Act} {Q : Exit → Act → World → Prop} (hgd : o.guard = none) (src dst : TypeId) (x : Operand) (ho : o.op = .convert src dst x) (l : List UInt8) (hx : a.eval x = .string (str l)) {e : TypeId}
    (hs : P.underlying src = some .string) (hd : P.underlying dst = some (.slice e)) (he : P.underlying e = some (.int .u8)) (hl : l.length ≤ 4294967296)
    (h : ∀ (g c : Nat) (w' : World), InB w' (some ⟨g, 0, none⟩) c l → Below w.heap.size w w' → wpList P ops Q rest (a.put o.dst (.slice (some ⟨g, 0, none⟩) l.length c)) w') : wpList P ops Q (o :: rest) a w := by
  have hsz : (str l).size = l.length := by show l.toArray.size = _; simp
  have hge := grownCap_ge w l.length 0 e
  have hle := grownCap_le_maxLen w l.length 0 e (by unfold maxLen; omega)
  have key := run_bytes_of_string (P := P) w src dst e (str l) hs hd he
  rw [hsz] at key
  refine wpList_plain hgd fun K hK => ?_
  unfold Oper.wp execOp
  simp only [ho, hx, Sem.run_bind, Sem.run_pure, Result.andThen_ok, key]
  refine hK _ _ (h _ _ _ ?_ ?_)
  · refine ⟨hge, by unfold maxLen at hle; omega, hl, .inr ⟨w.heap.size, 0, rfl, ?_, fun i hi j u hu => ?_⟩⟩
    · show _ < (w.heap.push _).size
      simp
    · have hj : j = 0 := by
        have := (List.getElem?_eq_some_iff.1 hu).1
        simp [bc] at this
        omega
      subst hj
      rw [show (0 : Nat) + i * 1 + 0 = i by omega]
      have hc := World.cell?_alloc_mark w.drew (bytesRow (str l) (grownCap w l.length 0 e)) e ((bytesRow (str l) (grownCap w l.length 0 e)).size, (bytesRow (str l) (grownCap w l.length 0 e)).size + 1) i
      have hd2 : w.drew.heap.size = w.heap.size := rfl
      rw [hd2] at hc
      rw [hc, bytesRow_at (str l) _ i (by show i < l.toArray.size; simpa using hi)]
      simp [bc] at hu
      rw [← hu]
      show some (Value.int .u8 (l.toArray[i].toNat : Int)) = _
      simp
  · exact (Below.refl _ _).drew.alloc (Nat.le_refl _) _
/-! What is read lies within the bounds of memory. -/
theorem rdEdit_sizesS (st : Rd) : (rdEdit st).p.mask < 4294967296 ∧ ∀ x ∈ (rdEdit st).p.f, x.s.length ≤ 4294967000 := by
  unfold rdEdit; split
  · unfold edEdit edP
    show Patch.mask (if hasP (edK st) = true then rdPatch (edC st) else pz) < 4294967296 ∧ ∀ x ∈ Patch.f (if hasP (edK st) = true then rdPatch (edC st) else pz), x.s.length ≤ 4294967000
    split
    · exact ⟨by have := (rdPatch_mask (edC st)).1; omega, rdPatch_sizes _⟩
    · exact ⟨by decide, by decide⟩
  · exact ⟨by decide, by decide⟩
theorem rdPred_sizesS (st : Rd) : (rdPred st).length ≤ 31 ∧ ∀ x ∈ rdPred st, x.v.s.length ≤ 4294967000 := by
  unfold rdPred
  split
  · exact ⟨pdL_len _, fun x hx => by have := rdNodes_texts _ _ x hx; omega⟩
  · exact ⟨by simp, fun x hx => by simp at hx⟩
theorem rdDeed_fit (st : Rd) : (rdDeed st).fit ∧ (rdDeed st).f.length ≤ 31 ∧ (rdDeed st).keep.length ≤ 40 := by
  have ze : ∀ x ∈ ez.p.f, x.s.length ≤ 4294967000 := by decide
  have zp : ∀ x ∈ pz.f, x.s.length ≤ 4294967000 := by decide
  have zf : ∀ x ∈ ([] : List Node), x.v.s.length ≤ 4294967000 := by intro x hx; cases hx
  have zt : ([] : List UInt8).length ≤ 4294967000 := by simp
  have me : ez.p.mask < 4294967296 := by decide
  have mp : pz.mask < 4294967296 := by decide
  have z0 : (0 : Nat) < 4294967296 := by decide
  rcases ddK_cases st with k | k | k | k | k | k | k | k
  · rw [dd_z k]; exact ⟨⟨⟨rfl, rfl⟩, zf, ze, zp, me, mp, z0, zt⟩, by simp, by simp⟩
  · rw [(dd_1 k).2]
    have := rdEdit_sizesS (ddA st)
    exact ⟨⟨⟨rdEdit_len _, rfl⟩, zf, this.2, zp, this.1, mp, z0, zt⟩, by simp, by simp⟩
  · rw [(dd_N k).2]; exact ⟨⟨⟨rfl, rfl⟩, zf, ze, zp, me, mp, z0, zt⟩, by simp, by simp⟩
  · rw [(dd_3 k).2]
    have h1 := rdPred_sizesS (ddB st)
    have h2 := rdN_bd (ddF st) 511
    exact ⟨⟨⟨rfl, rfl⟩, h1.2, ze, zp, me, mp, by show (rdN (ddF st) 511).toNat < 4294967296; omega, zt⟩, h1.1, by simp⟩
  · rw [(dd_D k).2]; exact ⟨⟨⟨rfl, rfl⟩, zf, ze, zp, me, mp, z0, zt⟩, by simp, by simp⟩
  · rw [(dd_5 k).2]
    have h1 := (rdPatch_mask (ddW st)).1
    exact ⟨⟨⟨rfl, rdPatch_len _⟩, zf, ze, rdPatch_sizes _, me, by show (rdPatch (ddW st)).mask < 4294967296; omega, z0, zt⟩, by simp, by simp⟩
  · rw [(dd_11 k).2]
    have h2 := rdN_bd (ddA st) 40
    refine ⟨⟨⟨rfl, rfl⟩, zf, ze, zp, me, mp, z0, zt⟩, by simp, ?_⟩
    show (rdInts 2 (ddC st) (ddL st)).length ≤ 40
    rw [rdInts_len]; unfold ddC; omega
  · rw [(dd_12 k).2]
    have h := (rdS_len (ddA st) 4096).2.1
    refine ⟨⟨⟨rfl, rfl⟩, zf, ze, zp, me, mp, z0, ?_⟩, by simp, by simp⟩
    show (rdS (ddA st) 4096).length ≤ 4294967000
    rcases h with h | h
    · omega
    · rw [h]; simp
def OwnD (w : World) (B : Nat) (x : DQ) : Prop :=
  w.ownsRow B 80 5 (.slice x.q.A x.o.f.length x.q.n) x.o.f.length (x.o.f.flatMap Node.cells) ∧ w.ownsRow B 3 1 (.slice x.q.K x.o.keep.length x.q.m) x.o.keep.length (x.o.keep.flatMap ic)
theorem OwnD.kept {w w' : World} {B : Nat} {x : DQ} {p : Option Nat} (h : OwnD w B x) (k : Kept p w.heap.size w w') (hp : ∀ g, p = some g → g < B) : OwnD w' B x := ⟨own_kept h.1 k hp, own_kept h.2 k hp⟩
theorem OwnD.below {w w' : World} {B : Nat} {x : DQ} (h : OwnD w B x) (k : Below w.heap.size w w') : OwnD w' B x := ⟨own_below h.1 k, own_below h.2 k⟩
theorem OwnD.app {w w' : World} {B b2 s2 n2 : Nat} {x : DQ} {v2 : Value} {x2 : List Value} (h : OwnD w B x) (o : w.ownsRow b2 38 s2 v2 n2 x2) (hg : w.grownBy w' v2.ownBlock) : OwnD w' B x :=
  ⟨own_kept_ne h.1 o (by decide) hg, own_kept_ne h.2 o (by decide) hg⟩
theorem OwnD.at_ {w : World} {B : Nat} {x : DQ} (h : OwnD w B x) (h1 : x.o.f.length ≤ 31) (h2 : x.o.keep.length ≤ 40) : x.o.at_ w x.q := ⟨In.own4 Node.cells_len h.1 (by omega), In.own4 ic_len h.2 (by omega)⟩
structure DS (w w' : World) (g B : Nat) (S : Rd) (A : Option Addr) (c : Nat) (l : List DQ) : Prop where
  below : Below w.heap.size w w'
  rd : RdP w' (some g) S
  hB : B ≤ w'.heap.size
  own : w'.ownsRow B 38 63 (.slice A l.length c) l.length (l.flatMap DQ.cells)
  each : ∀ x ∈ l, OwnD w' B x
  small : ∀ x ∈ l, x.o.fit ∧ x.o.f.length ≤ 31 ∧ x.o.keep.length ≤ 40
  hg : w.heap.size ≤ g
  gB : g < B
section
variable {w w1 w2 : World} {g B : Nat} {S S' : Rd} {A A' : Option Addr} {c c' : Nat} {l : List DQ}
theorem DS.step (h : DS w w1 g B S A c l) (hb : Below w1.heap.size w1 w2) : DS w w2 g B S A c l :=
  ⟨h.below.trans (hb.mono h.below.size), h.rd.below hb, Nat.le_trans h.hB hb.size, own_below h.own hb, fun x hx => (h.each x hx).below hb, h.small, h.hg, h.gB⟩
theorem DS.call (h : DS w w1 g B S A c l) (r : RdP w2 (some g) S') (k : Kept (some g) w1.heap.size w1 w2) : DS w w2 g B S' A c l := by
  have hp : ∀ x, some g = some x → x < B := fun x hx => by injection hx with hx; have := h.gB; omega
  exact ⟨h.below.trans (k.oneB h.below.size h.hg), r, Nat.le_trans h.hB k.size, own_kept h.own k hp, fun x hx => (h.each x hx).kept k hp, h.small, h.hg, h.gB⟩
theorem DS.inQ (h : DS w w1 g B S A c l) (hl : l.length ≤ 400) : InQ w1 A c l :=
  ⟨In.own4 DQ.cells_len h.own (by omega), fun x hx => (h.small x hx).1, fun x hx => (h.each x hx).at_ (h.small x hx).2.1 (h.small x hx).2.2⟩
end
def RetDec (w : World) (s : List UInt8) (e : Ending) (w' : World) : Prop :=
  ∃ (A : Option Addr) (c : Nat) (l : List DQ), e = .returned (.tuple #[.slice A l.length c, .int .i64 (rdScriptE s)]) ∧ InQ w' A c l ∧ deeds l = rdScript s ∧ Below w.heap.size w w'
theorem InQ.nil (w : World) : InQ w none 0 [] := ⟨In.nil (by omega), (fun _ h => by cases h), (fun _ h => by cases h)⟩
theorem rdDeeds_brk {S S' : Rd} {n : Nat} (h : S' = rdDeed' S) (he : S'.e ≠ 0) : rdDeeds' (n + 1) S = S' := by
  by_cases h0 : S.e = 0
  · rw [rdDeeds'_ok h0, ← h, rdDeeds'_bad he]
  · rw [rdDeeds'_bad h0, h, rdDeed'_err h0]
theorem rdDeeds_go {S S' : Rd} {n : Nat} (h : S' = rdDeed' S) (he : S'.e = 0) : rdDeeds' (n + 1) S = rdDeeds' n S' ∧ rdDeeds (n + 1) S = rdDeed S :: rdDeeds n S' := by
  have h0 : S.e = 0 := by
    rcases Classical.em (S.e = 0) with h0 | h0
    · exact h0
    · rw [h, rdDeed'_err h0] at he; exact absurd he h0
  rw [rdDeeds'_ok h0, rdDeeds_ok h0, ← h]
  exact ⟨rfl, rfl⟩
theorem rdScript_bad {s : List UInt8} (h : rdScriptE s ≠ 0) : rdScript s = [] := by unfold rdScript; rw [if_neg h]
theorem rdScript_good {s : List UInt8} (h : rdScriptE s = 0) : rdScript s = scL s := by unfold rdScript; rw [if_pos h]
theorem cells_flat (l : List DQ) (x : DQ) : (l ++ [x]).flatMap DQ.cells = l.flatMap DQ.cells ++ x.cells := by rw [List.flatMap_append, List.flatMap_cons, List.flatMap_nil, List.append_nil]
theorem deeds_snoc (l : List DQ) (x : DQ) : deeds (l ++ [x]) = deeds l ++ [x.o] := by unfold deeds; simp
set_option maxHeartbeats 8000000 in
set_option maxRecDepth 10000 in
theorem c_script_Decode (s : List UInt8) (w : World) (hT : Tab w) (hs : s.length ≤ 1000000) : Calls Tryd.prog 16 #[.string (str s)] w (RetDec w s) := by
  have HT := lh hT
  obtain ⟨N, hN⟩ : ∃ N : Nat, (N : Int) = rdN ⟨s, 0⟩ 400 := ⟨(rdN ⟨s, 0⟩ 400).toNat, by have := rdN_bd ⟨s, 0⟩ 400; omega⟩
  have hN4 := rdN_bd ⟨s, 0⟩ 400
  rw [← hN] at hN4
  have hN40 : N ≤ 400 := by omega
  have HN := lh hN
  have HSN := lh (show scN s = N by unfold scN; rw [← hN, Int.toNat_natCast])
  clear hT hN hN4
  go_enter Tryd.func16, Tryd.ntmps16
  go_wp2_with (with_reducible refine stop_conv 9 68 _ rfl ?_)
  refine Stop.mk (wpList_toBytes rfl _ _ _ rfl s rfl Tryd.underlying9 Tryd.underlying68 Tryd.underlying5 (by omega) ?_)
  intro g0 c0 w0 hin hb0
  have IN := lh hin
  have B0 := lh hb0
  clear hin hb0
  go_wp2_with (fail)
  refine (c_octet_New s _ c0 _ IN.out).mono ?_
  rintro e w1 ⟨g, rfl, hg, hr1, hb1⟩
  have B1 := lh (B0.out.trans (hb1.mono B0.out.size))
  have hgw := Nat.le_trans B0.out.size hg
  have R1 := lh hr1
  clear IN B0 hb1 hr1 hg
  go_wp2_with (fail)
  refine (c_octet_RNum (some g) _ 400 _ R1.out).mono ?_
  rintro e w2 ⟨rfl, hr2, hk2⟩
  rw [← HN.out]
  obtain ⟨B, hB⟩ : ∃ B, B = w2.heap.size := ⟨_, rfl⟩
  have S0 := lh (show DS w w2 g B (rdN' ⟨s, 0⟩ 400) none 0 [] from ⟨B1.out.trans (hk2.oneB B1.out.size hgw), hr2, by omega, World.ownsRow_nil _ _ _ _, (fun _ h => by cases h), (fun _ h => by cases h), hgw, by rw [hB]; exact hr2.lt rfl⟩)
  clear hr2 hk2 B1 R1 hB hgw
  go_wp2_with (fail)
  go_loopw [5, 12] (fun v i wr => ∃ (k : Nat) (A : Option Addr) (c : Nat) (l : List DQ) (S : Rd), k ≤ N ∧ i = .int .i64 k ∧ v = .slice A l.length c ∧ Hid (l.length = k) ∧ Hid (DS w wr g B S A c l) ∧ Hid (deeds l ++ rdDeeds (N - k) S = scL s ∧ rdDeeds' (N - k) S = scS s)) (fun _ i _ => N - (intOf i).toNat)
  case atStart => exact ⟨0, none, 0, [], rdN' ⟨s, 0⟩ 400, by omega, rfl, rfl, rfl, S0.out, by unfold scL scS; rw [HSN.out]; exact ⟨rfl, rfl⟩⟩
  case round =>
    obtain ⟨k, A, c, l, S, hk, rfl, rfl, HLN, D, R⟩ := hrel
    clear S0
    by_cases hlt : k < N
    · have d1 : decide ((k : Int) < (N : Int)) = true := by simp; omega
      have hk401 : k < 401 := by omega
      obtain ⟨n, hn⟩ : ∃ n, N - k = n + 1 := ⟨N - k - 1, by omega⟩
      obtain ⟨r1, r2⟩ := R.out
      rw [hn] at r1 r2
      have hn2 := lh (show N - (k + 1) = n by omega)
      obtain ⟨S', hS'⟩ : ∃ S', S' = rdDeed' S := ⟨_, rfl⟩
      have HS := lh hS'
      have R1 := lh r1
      have R2 := lh r2
      obtain ⟨f1, f2, f3⟩ := rdDeed_fit S
      obtain ⟨d, hd⟩ : ∃ d, d = rdDeed S := ⟨_, rfl⟩
      have HD := lh hd
      rw [← hd] at f1 f2 f3
      have HF := lh (show d.fit ∧ d.f.length ≤ 31 ∧ d.keep.length ≤ 40 from ⟨f1, f2, f3⟩)
      have hll : l.length ≤ 400 := by have := HLN.out; omega
      clear r1 r2 R hn f1 f2 f3
      go_wp2_with (fail)
      refine (c_script_read (some g) S _ (HT.out.below D.out.below) D.out.rd).mono ?_
      rintro e w3 ⟨q, rfl, of3, ok3, hr3, hk3⟩
      rw [← hd] at of3 ok3 ⊢
      rw [← hS'] at hr3
      have D3 := lh (D.out.call hr3 hk3)
      have hbw := D.out.hB
      obtain ⟨x, hx⟩ : ∃ x : DQ, x = ⟨d, q, HF.out.1.wf⟩ := ⟨_, rfl⟩
      have OX := lh (show OwnD w3 B x by rw [hx]; exact ⟨own_base of3 hbw, own_base ok3 hbw⟩)
      have HXO := lh (show x.o = d by rw [hx])
      have hxa : (.agg (d.arr q) : Value) = .agg (x.o.arr x.q) := by rw [hx]
      rw [hxa]
      clear hr3 hk3 of3 ok3 D hd hS' hxa hx hbw
      go_wp2_with (with_reducible refine stop_lit 45 _ rfl ?_)
      refine Stop.mk (wpList_lit1 rfl _ _ _ rfl elemOp (by omega) _ rfl (Deed.arr_size x.wf) ?_)
      have hb4 : Below w3.heap.size w3 (w3.alloc (.cells (x.o.arr x.q) 38)) := (Below.refl _ _).alloc (Nat.le_refl _) _
      have D4 := lh (D3.out.step hb4)
      have OX4 := lh (OX.out.below hb4)
      have SRC := lh (show Src (w3.alloc (.cells (x.o.arr x.q) 38)) (some ⟨w3.heap.size, 0, none⟩) 1 63 x.cells by have := Src.new w3 x.cells 38 63 x.cells_len; unfold DQ.cells at this ⊢; simpa using this)
      clear hb4 D3 OX
      go_wp2_with ((at_builtin; refine Stop.out ?_))
      refine Stop.mk (wpList_app _ rfl _ _ elemOp rfl B (.slice A l.length c) l.length _ rfl D4.out.own _ 1 1 x.cells rfl SRC.out x.one (by omega) D4.out.hB ?_)
      intro v7 w7 own7 hgr hb7 _
      obtain ⟨A7, c7, rfl, -⟩ := own_form own7
      have hgb : w.heap.size ≤ B := by have := D4.out.hg; have := D4.out.gB; omega
      have D7 := lh (show DS w w7 g B S' A7 c7 (l ++ [x]) from
        ⟨D4.out.below.trans (hb7.mono hgb), D4.out.rd.up hb7 (fun y hy => by injection hy with hy; have := D4.out.gB; omega), Nat.le_trans D4.out.hB hb7.size,
          by rw [cells_flat, List.length_append, List.length_singleton]; exact own7,
          fun y hy => by
            rcases List.mem_append.1 hy with hy | hy
            · exact (D4.out.each y hy).app D4.out.own hgr
            · rw [List.mem_singleton.1 hy]; exact OX4.out.app D4.out.own hgr,
          fun y hy => by
            rcases List.mem_append.1 hy with hy | hy
            · exact D4.out.small y hy
            · rw [List.mem_singleton.1 hy, HXO.out]; exact HF.out,
          D4.out.hg, D4.out.gB⟩)
      have HL7 := lh (show (l ++ [x]).length = k + 1 by rw [List.length_append, List.length_singleton, HLN.out])
      have HD7 := lh (show deeds (l ++ [x]) = deeds l ++ [rdDeed S] by rw [deeds_snoc, HXO.out, HD.out])
      obtain ⟨l7, hl7⟩ : ∃ y, y = l ++ [x] := ⟨_, rfl⟩
      have hv7 : (.slice A7 (l.length + 1) c7 : Value) = .slice A7 l7.length c7 := by rw [hl7, List.length_append, List.length_singleton]
      rw [hv7]
      rw [← hl7] at D7 HL7 HD7
      have hl7n : l7.length ≤ 401 := by have := HL7.out; omega
      clear own7 hgr hb7 hl7 hv7 D4 OX4 SRC hgb
      go_wp2_with (fail)
      refine (c_octet_Err' (some g) S' _ D7.out.rd).mono ?_
      rintro e w8 ⟨rfl, hb8⟩
      have D8 := lh (D7.out.step hb8)
      clear hb8 D7
      by_cases he : S'.e = 0
      · have j1 : (S'.e != 0) = false := by simpa using he
        obtain ⟨g1, g2⟩ := rdDeeds_go (n := n) HS.out he
        have RR := lh (show deeds l7 ++ rdDeeds (N - (k + 1)) S' = scL s ∧ rdDeeds' (N - (k + 1)) S' = scS s by
          rw [hn2.out, HD7.out]
          have e1 := R1.out
          have e2 := R2.out
          rw [g2] at e1
          rw [g1] at e2
          exact ⟨by rw [← e1]; simp, e2⟩)
        clear he g1 g2
        go_wp2_with (fail)
        go_roundw
        case rel => exact ⟨k + 1, A7, c7, l7, S', by omega, by go_num, rfl, HL7.out, D8.out, RR.out⟩
        case measure => simp [intOf]; omega
      · have j1 : (S'.e != 0) = true := by simpa using he
        have hE := (rdDeeds_brk (n := n) HS.out he).symm.trans R2.out
        have HE := lh (show rdEnd S' = rdScriptE s by unfold rdScriptE; rw [← hE])
        have j2 : (rdEnd S' != 0) = true := by rw [rdEnd_bad he]; simpa using he
        have HB := lh (rdScript_bad (s := s) (by rw [← HE.out, rdEnd_bad he]; exact he))
        clear he hE
        go_wp2_with (fail)
        refine (c_octet_End (some g) S' _ D8.out.rd).mono ?_
        rintro e w9 ⟨rfl, hb9⟩
        have D9 := lh (D8.out.step hb9)
        clear hb9 D8
        go_wp2_with (fail)
        go_ret2
        exact ⟨none, 0, [], by rw [← HE.out]; rfl, InQ.nil _, by rw [HB.out]; rfl, D9.out.below⟩
    · obtain rfl : k = N := by omega
      have d1 : decide ((k : Int) < (k : Int)) = false := by simp
      obtain ⟨r1, r2⟩ := R.out
      rw [Nat.sub_self] at r1 r2
      have hll : l.length ≤ 400 := by have := HLN.out; omega
      have HE := lh (show rdEnd S = rdScriptE s by unfold rdScriptE; rw [← r2]; rfl)
      have HL := lh (show deeds l = scL s by rw [← r1]; simp [rdDeeds])
      clear r1 r2 R hlt
      go_wp2_with (fail)
      refine (c_octet_End (some g) S _ D.out.rd).mono ?_
      rintro e w9 ⟨rfl, hb9⟩
      have D9 := lh (D.out.step hb9)
      clear hb9 D
      by_cases he : rdEnd S = 0
      · have j2 : (rdEnd S != 0) = false := by simpa using he
        have HB := lh (rdScript_good (s := s) (by rw [← HE.out]; exact he))
        have H0 := lh he
        clear he
        go_wp2_with (fail)
        go_ret2
        exact ⟨A, c, l, by rw [← HE.out, H0.out]; rfl, D9.out.inQ hll, by rw [HB.out, HL.out], D9.out.below⟩
      · have j2 : (rdEnd S != 0) = true := by simpa using he
        have HB := lh (rdScript_bad (s := s) (by rw [← HE.out]; exact he))
        clear he
        go_wp2_with (fail)
        go_ret2
        exact ⟨none, 0, [], by rw [← HE.out]; rfl, InQ.nil _, by rw [HB.out]; rfl, D9.out.below⟩
open Go.RowKit

set_option maxHeartbeats 40000000 in
set_option maxRecDepth 10000 in
theorem ref47_Check_N1 (o : Deed) (q : Where) (w : World) (ho : o.fit) (hq : o.at_ w q) (hk : o.kind = 2 ∨ o.kind = 7 ∨ o.kind = 8 ∨ o.kind = 9 ∨ o.kind = 10) (h0 : 0 ≤ o.n) (h1 : o.n ≤ 1099511627776) : Calls Tryd.prog 10 #[.agg (o.arr q)] w (RetV w (.bool o.ok)) := by
  have FN : dN o.kind = true := by unfold dN; simp; omega
  have FD : dD o.kind = false := by unfold dD; simp; omega
  have j1 : (o.kind == 1) = false := by simp; omega
  have j3 : (o.kind == 3) = false := by simp; omega
  have j5 : (o.kind == 5) = false := by simp; omega
  have j11 : (o.kind == 11) = false := by simp; omega
  have j12 : (o.kind == 12) = false := by simp; omega
  have d1 : decide (1 ≤ o.kind) = true := by simp; omega
  have d1' : decide (o.kind < 1) = false := by simp; omega
  have d2 : decide (o.kind ≤ 12) = true := by simp; omega
  have d2' : decide (12 < o.kind) = false := by simp; omega
  have t1 : decide (0 ≤ o.n) = true := by simp; omega
  have t1' : decide (o.n < 0) = false := by simp; omega
  have t2 : decide (o.n ≤ 1099511627776) = true := by simp; omega
  have t2' : decide (1099511627776 < o.n) = false := by simp; omega
  have hl : (0 ≤ o.n ∧ o.n ≤ 1099511627776) := ⟨h0, h1⟩
  have HK := lh (show o.ok = decide (({ dz with kind := o.kind, n := o.n } : Deed) = o) by rw [ok_N hk, decide_eq_true hl]; first | rfl | simp)
  clear hl
  clear h0 h1
  have HF := lh ho
  have HQ := lh hq
  obtain ⟨R, hR⟩ : ∃ R : Deed, R = { dz with kind := o.kind } := ⟨_, rfl⟩
  have hRw : R.wf := by rw [hR]; exact ⟨rfl, rfl⟩
  have HR := lh hR
  refine rkHead rfl o q w _ ho ?_
  intro w1 g v S0
  have S := lh (show XC w w1 o R q wz g by rw [hR]; exact S0)
  clear S0 ho hq hk hR
  have ps := dcs HF.out.wf S.out.o
  go_wp2_with (fail)
  clear ps
  refine numS S HF FN fun _ S ps => ?_
  have s9 := S.out.r.cell (Deed.getI 1 (by omega))
  have sf := fun i => S.out.r.frozen i
  have slt := S.out.r.lt
  have S2 := lh (S.out.set (r' := { dz with kind := o.kind, n := o.n }) (s' := wz) 1 (.int .i64 o.n) (by rw [HR.out]; have := Deed.setI (o := { dz with kind := o.kind }) (q := wz) ⟨rfl, rfl⟩ 1 (by omega) o.n; simpa using this))
  have rs := dcs HF.out.wf S2.out.o
  go_wp2_with (fail)
  replace S := S2
  clear s9 sf slt S2 rs
  clear ps
  refine devS S HF FD fun _ S ps => ?_
  go_wp2_with (with_reducible refine slG 34 (.tmp 3) rfl ?_)
  refine Stop.mk (wlG (by rfl) _ _ rfl g 0 rfl _ S.out.r.all strOpR (Deed.arr_size ⟨rfl, rfl⟩) ?_)
  go_wp2_with (with_reducible refine slG 34 (.tmp 1) rfl ?_)
  refine Stop.mk (wlG (by rfl) _ _ rfl w.heap.size 0 rfl _ S.out.o.all strOpR (Deed.arr_size HF.out.wf) ?_)
  go_wp2_with (fail)
  refine (c_ref47_Same { dz with kind := o.kind, n := o.n } o wz q _ ⟨rfl, rfl⟩ HF.out.wf ⟨In.nil (by simp), In.nil (by simp)⟩ (HQ.out.below S.out.below)).mono ?_
  rintro e w3 ⟨rfl, hb3⟩
  go_wp2_with (fail)
  go_ret
  exact RetV.bool HK.out.symm (S.out.below.trans (hb3.mono S.out.below.size))
set_option maxHeartbeats 40000000 in
set_option maxRecDepth 10000 in
theorem ref47_Check_N2 (o : Deed) (q : Where) (w : World) (ho : o.fit) (hq : o.at_ w q) (hk : o.kind = 2 ∨ o.kind = 7 ∨ o.kind = 8 ∨ o.kind = 9 ∨ o.kind = 10) (h0 : 0 ≤ o.n) (h1 : ¬ o.n ≤ 1099511627776) : Calls Tryd.prog 10 #[.agg (o.arr q)] w (RetV w (.bool o.ok)) := by
  have FN : dN o.kind = true := by unfold dN; simp; omega
  have FD : dD o.kind = false := by unfold dD; simp; omega
  have j1 : (o.kind == 1) = false := by simp; omega
  have j3 : (o.kind == 3) = false := by simp; omega
  have j5 : (o.kind == 5) = false := by simp; omega
  have j11 : (o.kind == 11) = false := by simp; omega
  have j12 : (o.kind == 12) = false := by simp; omega
  have d1 : decide (1 ≤ o.kind) = true := by simp; omega
  have d1' : decide (o.kind < 1) = false := by simp; omega
  have d2 : decide (o.kind ≤ 12) = true := by simp; omega
  have d2' : decide (12 < o.kind) = false := by simp; omega
  have t1 : decide (0 ≤ o.n) = true := by simp; omega
  have t1' : decide (o.n < 0) = false := by simp; omega
  have t2 : decide (o.n ≤ 1099511627776) = false := by simp; omega
  have t2' : decide (1099511627776 < o.n) = true := by simp; omega
  have hl : ¬ (0 ≤ o.n ∧ o.n ≤ 1099511627776) := by omega
  have HK := lh (show o.ok = false by rw [ok_N hk, decide_eq_false hl]; first | rfl | simp)
  clear hl
  clear h0 h1
  have HF := lh ho
  have HQ := lh hq
  obtain ⟨R, hR⟩ : ∃ R : Deed, R = { dz with kind := o.kind } := ⟨_, rfl⟩
  have hRw : R.wf := by rw [hR]; exact ⟨rfl, rfl⟩
  have HR := lh hR
  refine rkHead rfl o q w _ ho ?_
  intro w1 g v S0
  have S := lh (show XC w w1 o R q wz g by rw [hR]; exact S0)
  clear S0 ho hq hk hR
  have ps := dcs HF.out.wf S.out.o
  go_wp2_with (fail)
  clear ps
  refine numS S HF FN fun _ S ps => ?_
  have s9 := S.out.r.cell (Deed.getI 1 (by omega))
  have sf := fun i => S.out.r.frozen i
  have slt := S.out.r.lt
  have S2 := lh (S.out.set (r' := { dz with kind := o.kind, n := o.n }) (s' := wz) 1 (.int .i64 o.n) (by rw [HR.out]; have := Deed.setI (o := { dz with kind := o.kind }) (q := wz) ⟨rfl, rfl⟩ 1 (by omega) o.n; simpa using this))
  have rs := dcs HF.out.wf S2.out.o
  go_wp2_with (fail)
  replace S := S2
  clear s9 sf slt S2 rs
  clear ps
  refine devS S HF FD fun _ S ps => ?_
  go_wp2_with (fail)
  go_ret
  exact RetV.bool HK.out.symm S.out.below
set_option maxHeartbeats 40000000 in
set_option maxRecDepth 10000 in
theorem ref47_Check_N3 (o : Deed) (q : Where) (w : World) (ho : o.fit) (hq : o.at_ w q) (hk : o.kind = 2 ∨ o.kind = 7 ∨ o.kind = 8 ∨ o.kind = 9 ∨ o.kind = 10) (h0 : ¬ 0 ≤ o.n) : Calls Tryd.prog 10 #[.agg (o.arr q)] w (RetV w (.bool o.ok)) := by
  have FN : dN o.kind = true := by unfold dN; simp; omega
  have FD : dD o.kind = false := by unfold dD; simp; omega
  have j1 : (o.kind == 1) = false := by simp; omega
  have j3 : (o.kind == 3) = false := by simp; omega
  have j5 : (o.kind == 5) = false := by simp; omega
  have j11 : (o.kind == 11) = false := by simp; omega
  have j12 : (o.kind == 12) = false := by simp; omega
  have d1 : decide (1 ≤ o.kind) = true := by simp; omega
  have d1' : decide (o.kind < 1) = false := by simp; omega
  have d2 : decide (o.kind ≤ 12) = true := by simp; omega
  have d2' : decide (12 < o.kind) = false := by simp; omega
  have t1 : decide (0 ≤ o.n) = false := by simp; omega
  have t1' : decide (o.n < 0) = true := by simp; omega
  have hl : ¬ (0 ≤ o.n ∧ o.n ≤ 1099511627776) := by omega
  have HK := lh (show o.ok = false by rw [ok_N hk, decide_eq_false hl]; first | rfl | simp)
  clear hl
  clear h0
  have HF := lh ho
  have HQ := lh hq
  obtain ⟨R, hR⟩ : ∃ R : Deed, R = { dz with kind := o.kind } := ⟨_, rfl⟩
  have hRw : R.wf := by rw [hR]; exact ⟨rfl, rfl⟩
  have HR := lh hR
  refine rkHead rfl o q w _ ho ?_
  intro w1 g v S0
  have S := lh (show XC w w1 o R q wz g by rw [hR]; exact S0)
  clear S0 ho hq hk hR
  have ps := dcs HF.out.wf S.out.o
  go_wp2_with (fail)
  clear ps
  refine numS S HF FN fun _ S ps => ?_
  have s9 := S.out.r.cell (Deed.getI 1 (by omega))
  have sf := fun i => S.out.r.frozen i
  have slt := S.out.r.lt
  have S2 := lh (S.out.set (r' := { dz with kind := o.kind, n := o.n }) (s' := wz) 1 (.int .i64 o.n) (by rw [HR.out]; have := Deed.setI (o := { dz with kind := o.kind }) (q := wz) ⟨rfl, rfl⟩ 1 (by omega) o.n; simpa using this))
  have rs := dcs HF.out.wf S2.out.o
  go_wp2_with (fail)
  replace S := S2
  clear s9 sf slt S2 rs
  clear ps
  refine devS S HF FD fun _ S ps => ?_
  go_wp2_with (fail)
  go_ret
  exact RetV.bool HK.out.symm S.out.below
end Go.Proofs.YtiedkcijjfmhaaaDoor
