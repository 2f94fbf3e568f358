/-
  The walk of the reference's Check of acts, a class of kinds. (Printed by gen47j.py.)
-/
import Derived.Test.YtiedkcijjfmhaaaDoorSy25
import Derived.Test.YtiedkcijjfmhaaaDoorSy29
namespace Go.Proofs.YtiedkcijjfmhaaaDoor
open Go.RowKit

theorem keep_take (l : List Int) (k : Nat) (h : k < l.length) : ((l.take (k + 1)).any keepBad) = ((l.take k).any keepBad || keepBad l[k]) := by
  rw [List.take_succ_eq_append_getElem h, List.any_append]
  simp
set_option maxHeartbeats 40000000 in
set_option maxRecDepth 10000 in
theorem ref47_Check_K1 (o : Deed) (q : Where) (w : World) (ho : o.fit) (hq : o.at_ w q) (hk : o.kind = 11) (h0 : o.keep.length ≤ 40) : Calls Tryd.prog 10 #[.agg (o.arr q)] w (RetV w (.bool o.ok)) := by
  have FN : dN o.kind = false := by unfold dN; simp; omega
  have FD : dD o.kind = false := by unfold dD; simp; omega
  have j1 : (o.kind == 1) = false := by simp; omega
  have j3 : (o.kind == 3) = false := by simp; omega
  have j5 : (o.kind == 5) = false := by simp; omega
  have j11 : (o.kind == 11) = true := by simp; omega
  have j12 : (o.kind == 12) = false := by simp; omega
  have d1 : decide (1 ≤ o.kind) = true := by simp; omega
  have d1' : decide (o.kind < 1) = false := by simp; omega
  have d2 : decide (o.kind ≤ 12) = true := by simp; omega
  have d2' : decide (12 < o.kind) = false := by simp; omega
  have t1 : decide ((o.keep.length : Int) ≤ 40) = true := by simp; omega
  have t1' : decide (40 < (o.keep.length : Int)) = false := by simp; omega
  have HK := lh (show o.ok = (true && !o.keep.any keepBad && decide (({ dz with kind := o.kind, keep := o.keep } : Deed) = o)) by rw [ok_K hk, keep_all, decide_eq_true h0])
  clear h0
  have HF := lh ho
  have HQ := lh hq
  obtain ⟨R, hR⟩ : ∃ R : Deed, R = { dz with kind := o.kind } := ⟨_, rfl⟩
  have hRw : R.wf := by rw [hR]; exact ⟨rfl, rfl⟩
  have HR := lh hR
  refine rkHead rfl o q w _ ho ?_
  intro w1 g v S0
  have S := lh (show XC w w1 o R q wz g by rw [hR]; exact S0)
  clear S0 ho hq hk hR
  have ps := dcs HF.out.wf S.out.o
  go_wp2_with (fail)
  clear ps
  refine numS S HF FN fun _ S ps => ?_
  go_wp2_with (fail)
  clear ps
  refine devS S HF FD fun w1 S ps => ?_
  have s9 := S.out.r.cell (Deed.getK hRw 0 (by omega))
  have sf := fun i => S.out.r.frozen i
  have slt := S.out.r.lt
  have S2 := lh (S.out.set (r' := { dz with kind := o.kind, keep := o.keep }) (s' := ⟨none, 0, q.K, q.m⟩) 61 (.slice q.K o.keep.length q.m) (by rw [HR.out]; exact Deed.setK (o := { dz with kind := o.kind }) (q := wz) ⟨rfl, rfl⟩ q.K o.keep q.m))
  have rs := dcs HF.out.wf S2.out.o
  go_wp2_with (fail)
  replace S := S2
  clear s9 sf slt S2 rs
  have hlen := (HQ.out.k).2.2.1
  obtain ⟨wk, hwk⟩ : ∃ x, x = (w1.setCell ⟨g, 61, none⟩ (.slice q.K o.keep.length q.m)) := ⟨_, rfl⟩
  clear ps
  rw [← hwk] at S ⊢
  clear hwk
  go_loopw [4, 5] (fun v i wr => ∃ k : Nat, k ≤ o.keep.length ∧ i = .int .i64 k ∧ Hid (v = .bool (true && !(o.keep.take k).any keepBad)) ∧ Hid (XC w wr o { dz with kind := o.kind, keep := o.keep } q ⟨none, 0, q.K, q.m⟩ g))
    (fun _ i _ => o.keep.length - (intOf i).toNat)
  case atStart => exact ⟨0, by omega, rfl, rfl, S.out⟩
  case round =>
    obtain ⟨k, hk, rfl, HV, S⟩ := hrel
    have ps := dcs HF.out.wf S.out.o
    by_cases hlt : k < o.keep.length
    · have hkt := lh (keep_take o.keep k hlt)
      obtain ⟨b9, off9, hA9, hb9, hrow9⟩ := (HQ.out.below S.out.below).k.at hlt
      have e0 : wr.cell? ⟨b9, off9 + k, none⟩ = some (.int .i64 o.keep[k]) := by have := hrow9 k hlt 0 _ rfl; simpa using this
      rw [hA9] at ps
      have hi1 : (0 : Int) ≤ (k : Int) := by omega
      have hi2 : (k : Int) < (o.keep.length : Int) := by omega
      obtain ⟨x, hx⟩ : ∃ x, x = o.keep[k] := ⟨_, rfl⟩
      rw [← hx] at e0
      replace hkt := lh (by have := hkt.out; rw [← hx] at this; exact this)
      obtain ⟨V, hV⟩ : ∃ V, (true && !(o.keep.take k).any keepBad) = V := ⟨_, rfl⟩
      have HV2 := HV.out
      rw [hV] at HV2
      subst HV2
      have hVN : Hid ((true && !(o.keep.take (k + 1)).any keepBad) = (V && !keepBad x)) := by
        show _ = _
        rw [hkt.out, Bool.not_or, ← Bool.and_assoc, hV]
      clear hV hx hrow9 HV hkt
      cases V
      · go_wp2_with (fail)
        go_roundw
        case rel => exact ⟨k + 1, by omega, by go_num, by show _ = _; rw [hVN.out]; rfl, S.out⟩
        case measure => simp [intOf]; omega
      · by_cases z0 : 0 ≤ x
        · have y0 : decide (0 ≤ x) = true := by simpa using z0
          have y0' : decide (x < 0) = false := by simpa using z0
          by_cases z1 : x ≤ 2
          · have y1 : decide (x ≤ 2) = true := by simpa using z1
            have y1' : decide (2 < x) = false := by simpa using z1
            have NB := lh (show keepBad x = false by unfold keepBad; rw [y0', y1']; rfl)
            clear z0 z1
            go_wp2_with (fail)
            go_roundw
            case rel => exact ⟨k + 1, by omega, by go_num, by show _ = _; rw [hVN.out, NB.out]; rfl, S.out⟩
            case measure => simp [intOf]; omega
          · have y1 : decide (x ≤ 2) = false := by simpa using z1
            have y1' : decide (2 < x) = true := by simp; omega
            have NB := lh (show keepBad x = true by unfold keepBad; rw [y0', y1']; rfl)
            clear z0 z1
            go_wp2_with (fail)
            go_roundw
            case rel => exact ⟨k + 1, by omega, by go_num, by show _ = _; rw [hVN.out, NB.out]; rfl, S.out⟩
            case measure => simp [intOf]; omega
        · have y0 : decide (0 ≤ x) = false := by simpa using z0
          have y0' : decide (x < 0) = true := by simp; omega
          have NB := lh (show keepBad x = true by unfold keepBad; rw [y0']; rfl)
          clear z0
          go_wp2_with (fail)
          go_roundw
          case rel => exact ⟨k + 1, by omega, by go_num, by show _ = _; rw [hVN.out, NB.out]; rfl, S.out⟩
          case measure => simp [intOf]; omega
    · obtain rfl : k = o.keep.length := by omega
      have hdd : decide ((o.keep.length : Int) < (o.keep.length : Int)) = false := by simp
      have HV2 := HV.out
      rw [List.take_length] at HV2
      obtain ⟨V, hV⟩ : ∃ V, (true && !o.keep.any keepBad) = V := ⟨_, rfl⟩
      rw [hV] at HV2
      subst HV2
      replace HK := lh (by have := HK.out; rw [hV] at this; exact this)
      clear hV HV hlt
      cases V
      · go_wp2_with (fail)
        go_ret
        exact RetV.bool HK.out.symm S.out.below
      · go_wp2_with (with_reducible refine slG 34 (.tmp 3) rfl ?_)
        refine Stop.mk (wlG (by rfl) _ _ rfl g 0 rfl _ S.out.r.all strOpR (Deed.arr_size ⟨rfl, rfl⟩) ?_)
        go_wp2_with (with_reducible refine slG 34 (.tmp 1) rfl ?_)
        refine Stop.mk (wlG (by rfl) _ _ rfl w.heap.size 0 rfl _ S.out.o.all strOpR (Deed.arr_size HF.out.wf) ?_)
        go_wp2_with (fail)
        refine (c_ref47_Same { dz with kind := o.kind, keep := o.keep } o ⟨none, 0, q.K, q.m⟩ q _ ⟨rfl, rfl⟩ HF.out.wf ⟨In.nil (by simp), (HQ.out.below S.out.below).k⟩ (HQ.out.below S.out.below)).mono ?_
        rintro e w3 ⟨rfl, hb3⟩
        go_wp2_with (fail)
        go_ret
        exact RetV.bool HK.out.symm (S.out.below.trans (hb3.mono S.out.below.size))
set_option maxHeartbeats 40000000 in
set_option maxRecDepth 10000 in
theorem ref47_Check_K2 (o : Deed) (q : Where) (w : World) (ho : o.fit) (hq : o.at_ w q) (hk : o.kind = 11) (h0 : ¬ o.keep.length ≤ 40) : Calls Tryd.prog 10 #[.agg (o.arr q)] w (RetV w (.bool o.ok)) := by
  have FN : dN o.kind = false := by unfold dN; simp; omega
  have FD : dD o.kind = false := by unfold dD; simp; omega
  have j1 : (o.kind == 1) = false := by simp; omega
  have j3 : (o.kind == 3) = false := by simp; omega
  have j5 : (o.kind == 5) = false := by simp; omega
  have j11 : (o.kind == 11) = true := by simp; omega
  have j12 : (o.kind == 12) = false := by simp; omega
  have d1 : decide (1 ≤ o.kind) = true := by simp; omega
  have d1' : decide (o.kind < 1) = false := by simp; omega
  have d2 : decide (o.kind ≤ 12) = true := by simp; omega
  have d2' : decide (12 < o.kind) = false := by simp; omega
  have t1 : decide ((o.keep.length : Int) ≤ 40) = false := by simp; omega
  have t1' : decide (40 < (o.keep.length : Int)) = true := by simp; omega
  have HK := lh (show o.ok = (false && !o.keep.any keepBad && decide (({ dz with kind := o.kind, keep := o.keep } : Deed) = o)) by rw [ok_K hk, keep_all, decide_eq_false h0])
  clear h0
  have HF := lh ho
  have HQ := lh hq
  obtain ⟨R, hR⟩ : ∃ R : Deed, R = { dz with kind := o.kind } := ⟨_, rfl⟩
  have hRw : R.wf := by rw [hR]; exact ⟨rfl, rfl⟩
  have HR := lh hR
  refine rkHead rfl o q w _ ho ?_
  intro w1 g v S0
  have S := lh (show XC w w1 o R q wz g by rw [hR]; exact S0)
  clear S0 ho hq hk hR
  have ps := dcs HF.out.wf S.out.o
  go_wp2_with (fail)
  clear ps
  refine numS S HF FN fun _ S ps => ?_
  go_wp2_with (fail)
  clear ps
  refine devS S HF FD fun w1 S ps => ?_
  have s9 := S.out.r.cell (Deed.getK hRw 0 (by omega))
  have sf := fun i => S.out.r.frozen i
  have slt := S.out.r.lt
  have S2 := lh (S.out.set (r' := { dz with kind := o.kind, keep := o.keep }) (s' := ⟨none, 0, q.K, q.m⟩) 61 (.slice q.K o.keep.length q.m) (by rw [HR.out]; exact Deed.setK (o := { dz with kind := o.kind }) (q := wz) ⟨rfl, rfl⟩ q.K o.keep q.m))
  have rs := dcs HF.out.wf S2.out.o
  go_wp2_with (fail)
  replace S := S2
  clear s9 sf slt S2 rs
  have hlen := (HQ.out.k).2.2.1
  obtain ⟨wk, hwk⟩ : ∃ x, x = (w1.setCell ⟨g, 61, none⟩ (.slice q.K o.keep.length q.m)) := ⟨_, rfl⟩
  clear ps
  rw [← hwk] at S ⊢
  clear hwk
  go_loopw [4, 5] (fun v i wr => ∃ k : Nat, k ≤ o.keep.length ∧ i = .int .i64 k ∧ Hid (v = .bool (false && !(o.keep.take k).any keepBad)) ∧ Hid (XC w wr o { dz with kind := o.kind, keep := o.keep } q ⟨none, 0, q.K, q.m⟩ g))
    (fun _ i _ => o.keep.length - (intOf i).toNat)
  case atStart => exact ⟨0, by omega, rfl, rfl, S.out⟩
  case round =>
    obtain ⟨k, hk, rfl, HV, S⟩ := hrel
    have ps := dcs HF.out.wf S.out.o
    by_cases hlt : k < o.keep.length
    · have hkt := lh (keep_take o.keep k hlt)
      obtain ⟨b9, off9, hA9, hb9, hrow9⟩ := (HQ.out.below S.out.below).k.at hlt
      have e0 : wr.cell? ⟨b9, off9 + k, none⟩ = some (.int .i64 o.keep[k]) := by have := hrow9 k hlt 0 _ rfl; simpa using this
      rw [hA9] at ps
      have hi1 : (0 : Int) ≤ (k : Int) := by omega
      have hi2 : (k : Int) < (o.keep.length : Int) := by omega
      obtain ⟨x, hx⟩ : ∃ x, x = o.keep[k] := ⟨_, rfl⟩
      rw [← hx] at e0
      replace hkt := lh (by have := hkt.out; rw [← hx] at this; exact this)
      obtain ⟨V, hV⟩ : ∃ V, (false && !(o.keep.take k).any keepBad) = V := ⟨_, rfl⟩
      have HV2 := HV.out
      rw [hV] at HV2
      subst HV2
      have hVN : Hid ((false && !(o.keep.take (k + 1)).any keepBad) = (V && !keepBad x)) := by
        show _ = _
        rw [hkt.out, Bool.not_or, ← Bool.and_assoc, hV]
      clear hV hx hrow9 HV hkt
      cases V
      · go_wp2_with (fail)
        go_roundw
        case rel => exact ⟨k + 1, by omega, by go_num, by show _ = _; rw [hVN.out]; rfl, S.out⟩
        case measure => simp [intOf]; omega
      · by_cases z0 : 0 ≤ x
        · have y0 : decide (0 ≤ x) = true := by simpa using z0
          have y0' : decide (x < 0) = false := by simpa using z0
          by_cases z1 : x ≤ 2
          · have y1 : decide (x ≤ 2) = true := by simpa using z1
            have y1' : decide (2 < x) = false := by simpa using z1
            have NB := lh (show keepBad x = false by unfold keepBad; rw [y0', y1']; rfl)
            clear z0 z1
            go_wp2_with (fail)
            go_roundw
            case rel => exact ⟨k + 1, by omega, by go_num, by show _ = _; rw [hVN.out, NB.out]; rfl, S.out⟩
            case measure => simp [intOf]; omega
          · have y1 : decide (x ≤ 2) = false := by simpa using z1
            have y1' : decide (2 < x) = true := by simp; omega
            have NB := lh (show keepBad x = true by unfold keepBad; rw [y0', y1']; rfl)
            clear z0 z1
            go_wp2_with (fail)
            go_roundw
            case rel => exact ⟨k + 1, by omega, by go_num, by show _ = _; rw [hVN.out, NB.out]; rfl, S.out⟩
            case measure => simp [intOf]; omega
        · have y0 : decide (0 ≤ x) = false := by simpa using z0
          have y0' : decide (x < 0) = true := by simp; omega
          have NB := lh (show keepBad x = true by unfold keepBad; rw [y0']; rfl)
          clear z0
          go_wp2_with (fail)
          go_roundw
          case rel => exact ⟨k + 1, by omega, by go_num, by show _ = _; rw [hVN.out, NB.out]; rfl, S.out⟩
          case measure => simp [intOf]; omega
    · obtain rfl : k = o.keep.length := by omega
      have hdd : decide ((o.keep.length : Int) < (o.keep.length : Int)) = false := by simp
      have HV2 := HV.out
      rw [List.take_length] at HV2
      obtain ⟨V, hV⟩ : ∃ V, (false && !o.keep.any keepBad) = V := ⟨_, rfl⟩
      rw [hV] at HV2
      subst HV2
      replace HK := lh (by have := HK.out; rw [hV] at this; exact this)
      clear hV HV hlt
      cases V
      · go_wp2_with (fail)
        go_ret
        exact RetV.bool HK.out.symm S.out.below
      · go_wp2_with (with_reducible refine slG 34 (.tmp 3) rfl ?_)
        refine Stop.mk (wlG (by rfl) _ _ rfl g 0 rfl _ S.out.r.all strOpR (Deed.arr_size ⟨rfl, rfl⟩) ?_)
        go_wp2_with (with_reducible refine slG 34 (.tmp 1) rfl ?_)
        refine Stop.mk (wlG (by rfl) _ _ rfl w.heap.size 0 rfl _ S.out.o.all strOpR (Deed.arr_size HF.out.wf) ?_)
        go_wp2_with (fail)
        refine (c_ref47_Same { dz with kind := o.kind, keep := o.keep } o ⟨none, 0, q.K, q.m⟩ q _ ⟨rfl, rfl⟩ HF.out.wf ⟨In.nil (by simp), (HQ.out.below S.out.below).k⟩ (HQ.out.below S.out.below)).mono ?_
        rintro e w3 ⟨rfl, hb3⟩
        go_wp2_with (fail)
        go_ret
        exact RetV.bool HK.out.symm (S.out.below.trans (hb3.mono S.out.below.size))
end Go.Proofs.YtiedkcijjfmhaaaDoor
