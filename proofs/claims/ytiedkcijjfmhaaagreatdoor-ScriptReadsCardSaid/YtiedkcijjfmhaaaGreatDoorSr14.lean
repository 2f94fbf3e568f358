/-
  Lemmas (walks and plain laws), in one text.
-/
import Derived.Test.YtiedkcijjfmhaaaGreatDoorSr7
import Derived.Test.YtiedkcijjfmhaaaGreatDoorSr9
import Derived.Test.YtiedkcijjfmhaaaGreatDoorSr11
import Derived.Test.YtiedkcijjfmhaaaGreatDoorSr12
namespace Go.Proofs.YtiedkcijjfmhaaaGreatDoor
open Go.RowKit

/-- What stands when the fields below k have been read. -/
structure PatAt (w : World) (h : Nat) (S : Rd) (F : List Val) (m L : Nat) (k : Nat) (st : Rd) (f : List Val) (wr : World) : Prop where
  len : f.length = 8
  eS : rdFs' true (bitsFrom m k) st = S
  eF : rdFv true (bitsFrom m k) st f = F
  rd : RdR wr h st
  R : ∃ z, z.size = 26 ∧ Blk wr w.heap.size z
  C : Blk wr (w.heap.size + 1) (Patch.arr ⟨m, L, f⟩)
  kept : Kept (some h) w.heap.size w wr
section
variable {w wr w' : World} {h : Nat} {S : Rd} {F : List Val} {m L k : Nat} {st : Rd} {f : List Val}
theorem PatAt.no (I : PatAt w h S F m L k st f wr) (hk : k < 8) (hb : m.testBit k = false) (hw : Below wr.heap.size wr w') : PatAt w h S F m L (k + 1) st f w' := by
  have e := bitsFrom_no hk hb
  obtain ⟨z, hz, hR⟩ := I.R
  exact ⟨I.len, by rw [← e]; exact I.eS, by rw [← e]; exact I.eF, I.rd.below hw, ⟨z, hz, hR.below hw hR.lt⟩, I.C.below hw I.C.lt, I.kept.then_below hw I.kept.size⟩
theorem PatAt.one (I : PatAt w h S F m L k st f wr) (hh : h < w.heap.size) (hk : k < 8) (hb : m.testBit k = true) {w1 w2 : World} (k0 : Below wr.heap.size wr w1) (k1 : Kept (some h) w1.heap.size w1 w2) (k2 : Kept (some (w.heap.size + 1)) w2.heap.size w2 w')
    (hr : RdR w' h (rdVal' st)) (hC : Blk w' (w.heap.size + 1) (Patch.arr ⟨m, L, f.set k (rdVal st)⟩)) : PatAt w h S F m L (k + 1) (rdVal' st) (f.set k (rdVal st)) w' := by
  have e := bitsFrom_yes hk hb
  obtain ⟨z, hz, hR⟩ := I.R
  have hS := I.eS
  have hF := I.eF
  rw [e, rdFs', fldS_true] at hS
  rw [e, rdFv, fldS_true] at hF
  have z0 := k0.size
  have z1 := k1.size
  have zw := I.kept.size
  have zl := hR.lt
  have b1 := hR.below k0 hR.lt
  have b2 := b1.kept k1 b1.lt (by simp; omega)
  refine ⟨by rw [List.length_set]; exact I.len, hS, hF, hr, ⟨z, hz, b2.kept k2 b2.lt (by simp)⟩, hC, ?_⟩
  exact ((I.kept.then_below k0 zw).trans (k1.mono (by omega))).trans (k2.one (by omega) (.inl (by omega)))
end
set_option maxHeartbeats 8000000 in
set_option maxRecDepth 4000 in
theorem c_ref08_Patch (h : Nat) (st : Rd) (w : World) (hr : RdR w h st) : Calls Tryz.prog 69 #[.pointer (some ⟨h, 0, none⟩)] w (RetR h (rdPatch' st) w (.agg (rdPatch st).arr)) := by
  have hh := hr.lt
  have hdef := rdPatch'_def st
  have hM := (ptM_bd st).1
  have hM1 := (ptM_bd st).2
  have hfl := ptF_len st
  have HFL := Lib.hid hfl
  have hLb := ptL_bd st
  obtain ⟨S, hS⟩ : ∃ S, S = rdPatch' st := ⟨_, rfl⟩
  obtain ⟨M, hMm⟩ : ∃ M, M = ptM st := ⟨_, rfl⟩
  obtain ⟨L, hL⟩ : ∃ L, L = ptL st := ⟨_, rfl⟩
  rw [← hMm] at hM hM1
  rw [← hL] at hLb
  have HM := Lib.hid hM
  have HMM := Lib.hid hMm
  have HL := Lib.hid hL
  have HS := Lib.hid hS
  rw [← hS, ← hMm] at hdef
  have HD0 := Lib.hid hdef
  have HF := Lib.hid (show ptF st = rdFv true (bitsTo M 8) (ptB st) f8z by rw [hMm]; rfl)
  clear hL hMm hM hfl hS hdef
  cases he : (S.e != 0)
  all_goals
    cases h8 : M.testBit 8
  · rw [← HS.out]
    go_enter Tryz.func69, Tryz.ntmps69
    go_wp2_with (with_reducible refine stS 39 (.tmp 3) (.tmp 5) rfl rfl ?_)
    refine Stop.mk (wsB rfl _ _ _ rfl (w.heap.size + 1) _ (by simp [go_sem]) rfl _ (by simpa using Blk.new (w.alloc _) _ _) strP rfl rfl (by simp [Value.oneCell']) ?_)
    intro w1 hb1 hk1
    have B1 := Lib.hid (show Blk w1 (w.heap.size + 1) pz.arr by unfold Patch.arr; exact hb1)
    clear hb1
    have R1 := Lib.hid (((Blk.new w _ _).alloc _).kept hk1 (by simp; omega) (by simp))
    have hz1 := hk1.size
    simp only [World.size_alloc] at hz1
    have kw1 : Kept (some h) w.heap.size w w1 := (((Kept.refl _ _ _).alloc (Nat.le_refl _) _).alloc (by simp) _).trans (hk1.one (by simp; omega) (.inl (by omega)))
    have hr1 : RdR w1 h st := ((hr.below ((Below.refl _ _).alloc (Nat.le_refl _) _)).below ((Below.refl _ _).alloc (Nat.le_refl _) _)).kept hk1 (by simp; omega)
    clear hk1
    go_wp2_with (fail)
    refine (c_ref08_above h st 511 _ hr1).mono ?_
    rintro e w2 ⟨rfl, hr2, hk2⟩
    rw [← HM.out]
    have hz2 := hk2.size
    have kw2 : Kept (some h) w.heap.size w w2 := kw1.trans (hk2.mono (by omega))
    have B2 := B1.out.kept hk2 (by omega) (by simp; omega)
    have R2 := Lib.hid (R1.out.kept hk2 (by omega) (by simp; omega))
    have q2 := B2.cell (Patch.arr_head _).1
    have f2 := B2.frozen 0
    have B3 := Lib.hid (show Blk (w2.setCell ⟨w.heap.size + 1, 0, none⟩ (.int .u32 M)) (w.heap.size + 1) (Patch.arr ⟨M, 0, f8z⟩) by have := B2.store 0 (.int .u32 M); rw [Patch.put0] at this; exact this)
    have q3 := B3.out.cell (Patch.arr_head _).1
    clear B2
    go_wp2_with (fail)
    have R3 := Lib.hid (R2.out.far (q := ⟨w.heap.size + 1, 0, none⟩) (by simp) (.int .u32 M))
    have kk3 : Kept (some (w.heap.size + 1)) w2.heap.size w2 (w2.setCell ⟨w.heap.size + 1, 0, none⟩ (.int .u32 M)) := (by repeat (first | exact Kept.refl _ _ _ | refine Kept.drew ?_ | refine Kept.alloc ?_ (by first | omega | (simp; done) | (simp; omega)) _ | refine Kept.setCell ?_ (by first | (right; rfl) | (left; first | omega | (simp; done) | (simp; omega))) _ | refine Kept.then_kept ?_ (by assumption) (by first | omega | (simp; done) | (simp; omega)) | refine Kept.then_below ?_ (by assumption) (by first | omega | (simp; done) | (simp; omega)) | refine Kept.low ?_ (by assumption)))
    have hr3 : RdR (w2.setCell ⟨w.heap.size + 1, 0, none⟩ (.int .u32 M)) h (ptA st) := RdR.kept hr2 kk3 (by simp; omega)
    have kw3 : Kept (some h) w.heap.size w (w2.setCell ⟨w.heap.size + 1, 0, none⟩ (.int .u32 M)) := kw2.setCell (.inl (by simp)) _
    obtain ⟨w3, hw3⟩ : ∃ w3, w3 = w2.setCell ⟨w.heap.size + 1, 0, none⟩ (.int .u32 M) := ⟨_, rfl⟩
    have hz3 : w3.heap.size = w2.heap.size := by rw [hw3]; simp [World.setCell]
    rw [← hw3] at B3 R3 hr3 kw3 q3 ⊢
    clear hw3 q2 f2 kk3
    refine (c_ref05_Labels M (by omega) _).mono ?_
    rintro e w4 ⟨rfl, hb4⟩
    have hz4 := hb4.size
    have kw4 : Kept (some h) w.heap.size w w4 := kw3.then_below hb4 (by omega)
    have B4 := B3.out.below hb4 B3.out.lt
    have R4 := Lib.hid (R3.out.below hb4 R3.out.lt)
    have hr4 := hr3.below hb4
    clear q3
    obtain ⟨t1, t2⟩ := ptB_no (st := st) (by rw [← HMM.out]; exact h8)
    have T2 := Lib.hid (HL.out.trans t2)
    have HD := Lib.hid (show S = rdFs' true (bitsTo M 8) (ptA st) by rw [← t1]; exact HD0.out)
    have HF1 := Lib.hid (show ptF st = rdFv true (bitsTo M 8) (ptA st) f8z by rw [← t1]; exact HF.out)
    have I0 := Lib.hid (show PatAt w h S (ptF st) M L 0 (ptA st) f8z w4 from ⟨rfl, by rw [bitsFrom_zero]; exact HD.out.symm, by rw [bitsFrom_zero]; exact HF1.out.symm, hr4, ⟨_, rfl, R4.out⟩, by rw [T2.out]; exact B4, kw4⟩)
    clear t1 t2 B1 B3 B4 R1 R2 R3 R4 hr1 hr2 hr3 hr4 kw1 kw2 kw3 kw4 hk2 hb4 hz1 hz2 hz3 hz4
    go_wp2_with (fail)
    go_loopw [4] (fun i wr => ∃ (k : Nat) (st' : Rd) (f' : List Val), k ≤ 8 ∧ i = .int .i64 k ∧ PatAt w h S (ptF st) M L k st' f' wr)
      (fun i _ => 8 - (intOf i).toNat)
    case atStart => exact ⟨0, _, _, by omega, rfl, I0.out⟩
    case round =>
      clear I0
      obtain ⟨k, st', f', hk, rfl, I⟩ := hrel
      have IH := Lib.hid I
      have hwz := I.kept.size
      clear I
      by_cases hlt : k < 8
      · have cm := IH.out.C.cell (Patch.arr_head _).1
        cases hbit : M.testBit k
        · go_wp2_with (go_at_call 90; refine (c_ref03_Has M k (by omega) (by omega) _).mono ?_; rintro e w5 ⟨rfl, hb5⟩)
          go_roundw
          case rel => exact ⟨k + 1, st', f', by omega, by go_num, IH.out.no hlt hbit hb5⟩
          case measure => simp [intOf]; omega
        · go_wp2_with (fail)
          refine (c_ref03_Has M k (by omega) (by omega) _).mono ?_
          rintro e w5 ⟨rfl, hb5⟩
          have r5 := IH.out.rd.below hb5
          clear cm
          go_wp2_with (fail)
          refine (c_ref08_Value h st' _ r5).mono ?_
          rintro e w6 ⟨rfl, hr6, hk6⟩
          have C5 := IH.out.C.below hb5 IH.out.C.lt
          have C6 := Lib.hid (C5.kept hk6 C5.lt (by simp; omega))
          unfold Val.val
          go_wp2_with (with_reducible refine stS 36 (.tmp 29) (.tmp 27) rfl rfl ?_)
          refine Stop.mk (wpList_storeAt rfl _ _ _ rfl (w.heap.size + 1) (2 + k * 3) _ rfl rfl _ C6.out strV rfl (by rw [Patch.arr_size, IH.out.len]; simp; omega) (by simp [Value.oneCell']) ?_)
          intro w7 hb7 hk7
          rw [Patch.putV (by rw [IH.out.len]; exact hlt)] at hb7
          have hr7 : RdR w7 h (rdVal' st') := RdR.kept hr6 hk7 (by simp; omega)
          have B7 := Lib.hid hb7
          clear hb7
          go_wp2_with (fail)
          go_roundw
          case rel => exact ⟨k + 1, _, _, by omega, by go_num, IH.out.one hh hlt hbit hb5 hk6 hk7 hr7 B7.out⟩
          case measure => simp [intOf]; omega
      · obtain rfl : k = 8 := by omega
        obtain rfl : st' = S := IH.out.eS
        obtain ⟨z, hz, hR⟩ := IH.out.R
        have Rz := Lib.hid hR
        have Zz := Lib.hid hz
        have c0 := IH.out.rd.1.cell (i := 1) rfl
        clear hR hz
        go_wp2_with (with_reducible refine stop_load 39 (.tmp 3) rfl rfl ?_)
        refine Stop.mk (wpList_loadB rfl _ _ rfl (w.heap.size + 1) rfl _ IH.out.C strP (by rw [Patch.arr_size, IH.out.len]) ?_)
        go_wp2_with (with_reducible refine stS 39 (.tmp 2) (.tmp 36) rfl rfl ?_)
        refine Stop.mk (wsB rfl _ _ _ rfl w.heap.size _ rfl rfl _ Rz.out strP (by rw [Patch.arr_size, IH.out.len]) (by rw [Patch.arr_size, IH.out.len, Zz.out]) (Patch.arr_ones _) ?_)
        intro w11 hb11 hk11
        have hE : st'.e = 0 := by simpa using he
        have hv : rdPatch st = ptPatch st := rdPatch_ok (by rw [← HS.out]; exact hE)
        have B11 := Lib.hid hb11
        clear hb11
        go_wp2_with (fail)
        exact bodyPost_ret (results_B rfl rfl B11.out strP (by rw [Patch.arr_size, IH.out.len])) rfl ⟨by rw [hv, HL.out, HMM.out, show f' = ptF st from IH.out.eF]; rfl, IH.out.rd.kept hk11 (by simp; omega), IH.out.kept.trans (hk11.one hwz (.inl (Nat.le_refl _)))⟩
  · rw [← HS.out]
    go_enter Tryz.func69, Tryz.ntmps69
    go_wp2_with (with_reducible refine stS 39 (.tmp 3) (.tmp 5) rfl rfl ?_)
    refine Stop.mk (wsB rfl _ _ _ rfl (w.heap.size + 1) _ (by simp [go_sem]) rfl _ (by simpa using Blk.new (w.alloc _) _ _) strP rfl rfl (by simp [Value.oneCell']) ?_)
    intro w1 hb1 hk1
    have B1 := Lib.hid (show Blk w1 (w.heap.size + 1) pz.arr by unfold Patch.arr; exact hb1)
    clear hb1
    have R1 := Lib.hid (((Blk.new w _ _).alloc _).kept hk1 (by simp; omega) (by simp))
    have hz1 := hk1.size
    simp only [World.size_alloc] at hz1
    have kw1 : Kept (some h) w.heap.size w w1 := (((Kept.refl _ _ _).alloc (Nat.le_refl _) _).alloc (by simp) _).trans (hk1.one (by simp; omega) (.inl (by omega)))
    have hr1 : RdR w1 h st := ((hr.below ((Below.refl _ _).alloc (Nat.le_refl _) _)).below ((Below.refl _ _).alloc (Nat.le_refl _) _)).kept hk1 (by simp; omega)
    clear hk1
    go_wp2_with (fail)
    refine (c_ref08_above h st 511 _ hr1).mono ?_
    rintro e w2 ⟨rfl, hr2, hk2⟩
    rw [← HM.out]
    have hz2 := hk2.size
    have kw2 : Kept (some h) w.heap.size w w2 := kw1.trans (hk2.mono (by omega))
    have B2 := B1.out.kept hk2 (by omega) (by simp; omega)
    have R2 := Lib.hid (R1.out.kept hk2 (by omega) (by simp; omega))
    have q2 := B2.cell (Patch.arr_head _).1
    have f2 := B2.frozen 0
    have B3 := Lib.hid (show Blk (w2.setCell ⟨w.heap.size + 1, 0, none⟩ (.int .u32 M)) (w.heap.size + 1) (Patch.arr ⟨M, 0, f8z⟩) by have := B2.store 0 (.int .u32 M); rw [Patch.put0] at this; exact this)
    have q3 := B3.out.cell (Patch.arr_head _).1
    clear B2
    go_wp2_with (fail)
    have R3 := Lib.hid (R2.out.far (q := ⟨w.heap.size + 1, 0, none⟩) (by simp) (.int .u32 M))
    have kk3 : Kept (some (w.heap.size + 1)) w2.heap.size w2 (w2.setCell ⟨w.heap.size + 1, 0, none⟩ (.int .u32 M)) := (by repeat (first | exact Kept.refl _ _ _ | refine Kept.drew ?_ | refine Kept.alloc ?_ (by first | omega | (simp; done) | (simp; omega)) _ | refine Kept.setCell ?_ (by first | (right; rfl) | (left; first | omega | (simp; done) | (simp; omega))) _ | refine Kept.then_kept ?_ (by assumption) (by first | omega | (simp; done) | (simp; omega)) | refine Kept.then_below ?_ (by assumption) (by first | omega | (simp; done) | (simp; omega)) | refine Kept.low ?_ (by assumption)))
    have hr3 : RdR (w2.setCell ⟨w.heap.size + 1, 0, none⟩ (.int .u32 M)) h (ptA st) := RdR.kept hr2 kk3 (by simp; omega)
    have kw3 : Kept (some h) w.heap.size w (w2.setCell ⟨w.heap.size + 1, 0, none⟩ (.int .u32 M)) := kw2.setCell (.inl (by simp)) _
    obtain ⟨w3, hw3⟩ : ∃ w3, w3 = w2.setCell ⟨w.heap.size + 1, 0, none⟩ (.int .u32 M) := ⟨_, rfl⟩
    have hz3 : w3.heap.size = w2.heap.size := by rw [hw3]; simp [World.setCell]
    rw [← hw3] at B3 R3 hr3 kw3 q3 ⊢
    clear hw3 q2 f2 kk3
    refine (c_ref05_Labels M (by omega) _).mono ?_
    rintro e w4 ⟨rfl, hb4⟩
    have hz4 := hb4.size
    have kw4 : Kept (some h) w.heap.size w w4 := kw3.then_below hb4 (by omega)
    have B4 := B3.out.below hb4 B3.out.lt
    have R4 := Lib.hid (R3.out.below hb4 R3.out.lt)
    have hr4 := hr3.below hb4
    clear q3
    obtain ⟨t1, t2⟩ := ptB_yes (st := st) (by rw [← HMM.out]; exact h8)
    have T2 := Lib.hid (HL.out.trans t2)
    have hbL := rdN_bd (ptA st) 65535
    have TI := Lib.hid (show rdN (ptA st) 65535 = (L : Int) by rw [T2.out]; omega)
    have HD := Lib.hid (show S = rdFs' true (bitsTo M 8) (rdN' (ptA st) 65535) by rw [← t1]; exact HD0.out)
    have HF1 := Lib.hid (show ptF st = rdFv true (bitsTo M 8) (rdN' (ptA st) 65535) f8z by rw [← t1]; exact HF.out)
    have q4 := B4.cell (Patch.arr_head _).2
    have f4 := B4.frozen 1
    have B4' := Lib.hid B4
    clear t1 t2 hbL B4
    go_wp2_with (fail)
    refine (c_ref01_RNum h (ptA st) 65535 _ hr4).mono ?_
    rintro e w5 ⟨rfl, hr5, hk5⟩
    rw [TI.out]
    have hz5 := hk5.size
    have kw5 : Kept (some h) w.heap.size w w5 := kw4.trans (hk5.mono (by omega))
    have B5 := B4'.out.kept hk5 (by omega) (by simp; omega)
    have R5 := Lib.hid (R4.out.kept hk5 (by omega) (by simp; omega))
    have q5 := B5.cell (Patch.arr_head _).2
    have f5 := B5.frozen 1
    have B6 := show Blk (w5.setCell ⟨w.heap.size + 1, 1, none⟩ (.int .u32 L)) (w.heap.size + 1) (Patch.arr ⟨M, L, f8z⟩) by have := B5.store 1 (.int .u32 L); rw [Patch.put1] at this; exact this
    have R6 := R5.out.far (q := ⟨w.heap.size + 1, 1, none⟩) (by simp) (.int .u32 L)
    have kk6 : Kept (some (w.heap.size + 1)) w5.heap.size w5 (w5.setCell ⟨w.heap.size + 1, 1, none⟩ (.int .u32 L)) := (by repeat (first | exact Kept.refl _ _ _ | refine Kept.drew ?_ | refine Kept.alloc ?_ (by first | omega | (simp; done) | (simp; omega)) _ | refine Kept.setCell ?_ (by first | (right; rfl) | (left; first | omega | (simp; done) | (simp; omega))) _ | refine Kept.then_kept ?_ (by assumption) (by first | omega | (simp; done) | (simp; omega)) | refine Kept.then_below ?_ (by assumption) (by first | omega | (simp; done) | (simp; omega)) | refine Kept.low ?_ (by assumption)))
    have hr6 : RdR (w5.setCell ⟨w.heap.size + 1, 1, none⟩ (.int .u32 L)) h (rdN' (ptA st) 65535) := RdR.kept hr5 kk6 (by simp; omega)
    have kw6 : Kept (some h) w.heap.size w (w5.setCell ⟨w.heap.size + 1, 1, none⟩ (.int .u32 L)) := kw5.setCell (.inl (by simp)) _
    have I0 := Lib.hid (show PatAt w h S (ptF st) M L 0 (rdN' (ptA st) 65535) f8z (w5.setCell ⟨w.heap.size + 1, 1, none⟩ (.int .u32 L)) from ⟨rfl, by rw [bitsFrom_zero]; exact HD.out.symm, by rw [bitsFrom_zero]; exact HF1.out.symm, hr6, ⟨_, rfl, R6⟩, B6, kw6⟩)
    clear B1 B3 B4' B5 B6 R1 R2 R3 R4 R5 R6 hr1 hr2 hr3 hr4 hr5 hr6 kw1 kw2 kw3 kw4 kw5 kw6 kk6 hk2 hb4 hk5 hz1 hz2 hz3 hz4 hz5 q4 f4
    go_wp2_with (fail)
    go_loopw [4] (fun i wr => ∃ (k : Nat) (st' : Rd) (f' : List Val), k ≤ 8 ∧ i = .int .i64 k ∧ PatAt w h S (ptF st) M L k st' f' wr)
      (fun i _ => 8 - (intOf i).toNat)
    case atStart => exact ⟨0, _, _, by omega, rfl, I0.out⟩
    case round =>
      clear I0 q5 f5
      obtain ⟨k, st', f', hk, rfl, I⟩ := hrel
      have IH := Lib.hid I
      have hwz := I.kept.size
      clear I
      by_cases hlt : k < 8
      · have cm := IH.out.C.cell (Patch.arr_head _).1
        cases hbit : M.testBit k
        · go_wp2_with (go_at_call 90; refine (c_ref03_Has M k (by omega) (by omega) _).mono ?_; rintro e w5 ⟨rfl, hb5⟩)
          go_roundw
          case rel => exact ⟨k + 1, st', f', by omega, by go_num, IH.out.no hlt hbit hb5⟩
          case measure => simp [intOf]; omega
        · go_wp2_with (fail)
          refine (c_ref03_Has M k (by omega) (by omega) _).mono ?_
          rintro e w5 ⟨rfl, hb5⟩
          have r5 := IH.out.rd.below hb5
          clear cm
          go_wp2_with (fail)
          refine (c_ref08_Value h st' _ r5).mono ?_
          rintro e w6 ⟨rfl, hr6, hk6⟩
          have C5 := IH.out.C.below hb5 IH.out.C.lt
          have C6 := Lib.hid (C5.kept hk6 C5.lt (by simp; omega))
          unfold Val.val
          go_wp2_with (with_reducible refine stS 36 (.tmp 29) (.tmp 27) rfl rfl ?_)
          refine Stop.mk (wpList_storeAt rfl _ _ _ rfl (w.heap.size + 1) (2 + k * 3) _ rfl rfl _ C6.out strV rfl (by rw [Patch.arr_size, IH.out.len]; simp; omega) (by simp [Value.oneCell']) ?_)
          intro w7 hb7 hk7
          rw [Patch.putV (by rw [IH.out.len]; exact hlt)] at hb7
          have hr7 : RdR w7 h (rdVal' st') := RdR.kept hr6 hk7 (by simp; omega)
          have B7 := Lib.hid hb7
          clear hb7
          go_wp2_with (fail)
          go_roundw
          case rel => exact ⟨k + 1, _, _, by omega, by go_num, IH.out.one hh hlt hbit hb5 hk6 hk7 hr7 B7.out⟩
          case measure => simp [intOf]; omega
      · obtain rfl : k = 8 := by omega
        obtain rfl : st' = S := IH.out.eS
        obtain ⟨z, hz, hR⟩ := IH.out.R
        have Rz := Lib.hid hR
        have Zz := Lib.hid hz
        have c0 := IH.out.rd.1.cell (i := 1) rfl
        clear hR hz
        go_wp2_with (with_reducible refine stop_load 39 (.tmp 3) rfl rfl ?_)
        refine Stop.mk (wpList_loadB rfl _ _ rfl (w.heap.size + 1) rfl _ IH.out.C strP (by rw [Patch.arr_size, IH.out.len]) ?_)
        go_wp2_with (with_reducible refine stS 39 (.tmp 2) (.tmp 36) rfl rfl ?_)
        refine Stop.mk (wsB rfl _ _ _ rfl w.heap.size _ rfl rfl _ Rz.out strP (by rw [Patch.arr_size, IH.out.len]) (by rw [Patch.arr_size, IH.out.len, Zz.out]) (Patch.arr_ones _) ?_)
        intro w11 hb11 hk11
        have hE : st'.e = 0 := by simpa using he
        have hv : rdPatch st = ptPatch st := rdPatch_ok (by rw [← HS.out]; exact hE)
        have B11 := Lib.hid hb11
        clear hb11
        go_wp2_with (fail)
        exact bodyPost_ret (results_B rfl rfl B11.out strP (by rw [Patch.arr_size, IH.out.len])) rfl ⟨by rw [hv, HL.out, HMM.out, show f' = ptF st from IH.out.eF]; rfl, IH.out.rd.kept hk11 (by simp; omega), IH.out.kept.trans (hk11.one hwz (.inl (Nat.le_refl _)))⟩
  · rw [← HS.out]
    go_enter Tryz.func69, Tryz.ntmps69
    go_wp2_with (with_reducible refine stS 39 (.tmp 3) (.tmp 5) rfl rfl ?_)
    refine Stop.mk (wsB rfl _ _ _ rfl (w.heap.size + 1) _ (by simp [go_sem]) rfl _ (by simpa using Blk.new (w.alloc _) _ _) strP rfl rfl (by simp [Value.oneCell']) ?_)
    intro w1 hb1 hk1
    have B1 := Lib.hid (show Blk w1 (w.heap.size + 1) pz.arr by unfold Patch.arr; exact hb1)
    clear hb1
    have R1 := Lib.hid (((Blk.new w _ _).alloc _).kept hk1 (by simp; omega) (by simp))
    have hz1 := hk1.size
    simp only [World.size_alloc] at hz1
    have kw1 : Kept (some h) w.heap.size w w1 := (((Kept.refl _ _ _).alloc (Nat.le_refl _) _).alloc (by simp) _).trans (hk1.one (by simp; omega) (.inl (by omega)))
    have hr1 : RdR w1 h st := ((hr.below ((Below.refl _ _).alloc (Nat.le_refl _) _)).below ((Below.refl _ _).alloc (Nat.le_refl _) _)).kept hk1 (by simp; omega)
    clear hk1
    go_wp2_with (fail)
    refine (c_ref08_above h st 511 _ hr1).mono ?_
    rintro e w2 ⟨rfl, hr2, hk2⟩
    rw [← HM.out]
    have hz2 := hk2.size
    have kw2 : Kept (some h) w.heap.size w w2 := kw1.trans (hk2.mono (by omega))
    have B2 := B1.out.kept hk2 (by omega) (by simp; omega)
    have R2 := Lib.hid (R1.out.kept hk2 (by omega) (by simp; omega))
    have q2 := B2.cell (Patch.arr_head _).1
    have f2 := B2.frozen 0
    have B3 := Lib.hid (show Blk (w2.setCell ⟨w.heap.size + 1, 0, none⟩ (.int .u32 M)) (w.heap.size + 1) (Patch.arr ⟨M, 0, f8z⟩) by have := B2.store 0 (.int .u32 M); rw [Patch.put0] at this; exact this)
    have q3 := B3.out.cell (Patch.arr_head _).1
    clear B2
    go_wp2_with (fail)
    have R3 := Lib.hid (R2.out.far (q := ⟨w.heap.size + 1, 0, none⟩) (by simp) (.int .u32 M))
    have kk3 : Kept (some (w.heap.size + 1)) w2.heap.size w2 (w2.setCell ⟨w.heap.size + 1, 0, none⟩ (.int .u32 M)) := (by repeat (first | exact Kept.refl _ _ _ | refine Kept.drew ?_ | refine Kept.alloc ?_ (by first | omega | (simp; done) | (simp; omega)) _ | refine Kept.setCell ?_ (by first | (right; rfl) | (left; first | omega | (simp; done) | (simp; omega))) _ | refine Kept.then_kept ?_ (by assumption) (by first | omega | (simp; done) | (simp; omega)) | refine Kept.then_below ?_ (by assumption) (by first | omega | (simp; done) | (simp; omega)) | refine Kept.low ?_ (by assumption)))
    have hr3 : RdR (w2.setCell ⟨w.heap.size + 1, 0, none⟩ (.int .u32 M)) h (ptA st) := RdR.kept hr2 kk3 (by simp; omega)
    have kw3 : Kept (some h) w.heap.size w (w2.setCell ⟨w.heap.size + 1, 0, none⟩ (.int .u32 M)) := kw2.setCell (.inl (by simp)) _
    obtain ⟨w3, hw3⟩ : ∃ w3, w3 = w2.setCell ⟨w.heap.size + 1, 0, none⟩ (.int .u32 M) := ⟨_, rfl⟩
    have hz3 : w3.heap.size = w2.heap.size := by rw [hw3]; simp [World.setCell]
    rw [← hw3] at B3 R3 hr3 kw3 q3 ⊢
    clear hw3 q2 f2 kk3
    refine (c_ref05_Labels M (by omega) _).mono ?_
    rintro e w4 ⟨rfl, hb4⟩
    have hz4 := hb4.size
    have kw4 : Kept (some h) w.heap.size w w4 := kw3.then_below hb4 (by omega)
    have B4 := B3.out.below hb4 B3.out.lt
    have R4 := Lib.hid (R3.out.below hb4 R3.out.lt)
    have hr4 := hr3.below hb4
    clear q3
    obtain ⟨t1, t2⟩ := ptB_no (st := st) (by rw [← HMM.out]; exact h8)
    have T2 := Lib.hid (HL.out.trans t2)
    have HD := Lib.hid (show S = rdFs' true (bitsTo M 8) (ptA st) by rw [← t1]; exact HD0.out)
    have HF1 := Lib.hid (show ptF st = rdFv true (bitsTo M 8) (ptA st) f8z by rw [← t1]; exact HF.out)
    have I0 := Lib.hid (show PatAt w h S (ptF st) M L 0 (ptA st) f8z w4 from ⟨rfl, by rw [bitsFrom_zero]; exact HD.out.symm, by rw [bitsFrom_zero]; exact HF1.out.symm, hr4, ⟨_, rfl, R4.out⟩, by rw [T2.out]; exact B4, kw4⟩)
    clear t1 t2 B1 B3 B4 R1 R2 R3 R4 hr1 hr2 hr3 hr4 kw1 kw2 kw3 kw4 hk2 hb4 hz1 hz2 hz3 hz4
    go_wp2_with (fail)
    go_loopw [4] (fun i wr => ∃ (k : Nat) (st' : Rd) (f' : List Val), k ≤ 8 ∧ i = .int .i64 k ∧ PatAt w h S (ptF st) M L k st' f' wr)
      (fun i _ => 8 - (intOf i).toNat)
    case atStart => exact ⟨0, _, _, by omega, rfl, I0.out⟩
    case round =>
      clear I0
      obtain ⟨k, st', f', hk, rfl, I⟩ := hrel
      have IH := Lib.hid I
      have hwz := I.kept.size
      clear I
      by_cases hlt : k < 8
      · have cm := IH.out.C.cell (Patch.arr_head _).1
        cases hbit : M.testBit k
        · go_wp2_with (go_at_call 90; refine (c_ref03_Has M k (by omega) (by omega) _).mono ?_; rintro e w5 ⟨rfl, hb5⟩)
          go_roundw
          case rel => exact ⟨k + 1, st', f', by omega, by go_num, IH.out.no hlt hbit hb5⟩
          case measure => simp [intOf]; omega
        · go_wp2_with (fail)
          refine (c_ref03_Has M k (by omega) (by omega) _).mono ?_
          rintro e w5 ⟨rfl, hb5⟩
          have r5 := IH.out.rd.below hb5
          clear cm
          go_wp2_with (fail)
          refine (c_ref08_Value h st' _ r5).mono ?_
          rintro e w6 ⟨rfl, hr6, hk6⟩
          have C5 := IH.out.C.below hb5 IH.out.C.lt
          have C6 := Lib.hid (C5.kept hk6 C5.lt (by simp; omega))
          unfold Val.val
          go_wp2_with (with_reducible refine stS 36 (.tmp 29) (.tmp 27) rfl rfl ?_)
          refine Stop.mk (wpList_storeAt rfl _ _ _ rfl (w.heap.size + 1) (2 + k * 3) _ rfl rfl _ C6.out strV rfl (by rw [Patch.arr_size, IH.out.len]; simp; omega) (by simp [Value.oneCell']) ?_)
          intro w7 hb7 hk7
          rw [Patch.putV (by rw [IH.out.len]; exact hlt)] at hb7
          have hr7 : RdR w7 h (rdVal' st') := RdR.kept hr6 hk7 (by simp; omega)
          have B7 := Lib.hid hb7
          clear hb7
          go_wp2_with (fail)
          go_roundw
          case rel => exact ⟨k + 1, _, _, by omega, by go_num, IH.out.one hh hlt hbit hb5 hk6 hk7 hr7 B7.out⟩
          case measure => simp [intOf]; omega
      · obtain rfl : k = 8 := by omega
        obtain rfl : st' = S := IH.out.eS
        obtain ⟨z, hz, hR⟩ := IH.out.R
        have Rz := Lib.hid hR
        have Zz := Lib.hid hz
        have c0 := IH.out.rd.1.cell (i := 1) rfl
        clear hR hz
        go_wp2_with (with_reducible refine stS 39 (.tmp 2) (.tmp 35) rfl rfl ?_)
        refine Stop.mk (wsB rfl _ _ _ rfl w.heap.size _ rfl rfl _ Rz.out strP rfl (by rw [Zz.out]; rfl) (by simp [Value.oneCell']) ?_)
        intro w11 hb11 hk11
        have hE : st'.e ≠ 0 := by simpa using he
        have hv : rdPatch st = pz := rdPatch_bad (by rw [← HS.out]; exact hE)
        have B11 := Lib.hid (show Blk w11 w.heap.size pz.arr by unfold Patch.arr; exact hb11)
        clear hb11
        go_wp2_with (fail)
        exact bodyPost_ret (results_B rfl rfl B11.out strP (by unfold Patch.arr; rfl)) rfl ⟨by rw [hv], IH.out.rd.kept hk11 (by simp; omega), IH.out.kept.trans (hk11.one hwz (.inl (Nat.le_refl _)))⟩
  · rw [← HS.out]
    go_enter Tryz.func69, Tryz.ntmps69
    go_wp2_with (with_reducible refine stS 39 (.tmp 3) (.tmp 5) rfl rfl ?_)
    refine Stop.mk (wsB rfl _ _ _ rfl (w.heap.size + 1) _ (by simp [go_sem]) rfl _ (by simpa using Blk.new (w.alloc _) _ _) strP rfl rfl (by simp [Value.oneCell']) ?_)
    intro w1 hb1 hk1
    have B1 := Lib.hid (show Blk w1 (w.heap.size + 1) pz.arr by unfold Patch.arr; exact hb1)
    clear hb1
    have R1 := Lib.hid (((Blk.new w _ _).alloc _).kept hk1 (by simp; omega) (by simp))
    have hz1 := hk1.size
    simp only [World.size_alloc] at hz1
    have kw1 : Kept (some h) w.heap.size w w1 := (((Kept.refl _ _ _).alloc (Nat.le_refl _) _).alloc (by simp) _).trans (hk1.one (by simp; omega) (.inl (by omega)))
    have hr1 : RdR w1 h st := ((hr.below ((Below.refl _ _).alloc (Nat.le_refl _) _)).below ((Below.refl _ _).alloc (Nat.le_refl _) _)).kept hk1 (by simp; omega)
    clear hk1
    go_wp2_with (fail)
    refine (c_ref08_above h st 511 _ hr1).mono ?_
    rintro e w2 ⟨rfl, hr2, hk2⟩
    rw [← HM.out]
    have hz2 := hk2.size
    have kw2 : Kept (some h) w.heap.size w w2 := kw1.trans (hk2.mono (by omega))
    have B2 := B1.out.kept hk2 (by omega) (by simp; omega)
    have R2 := Lib.hid (R1.out.kept hk2 (by omega) (by simp; omega))
    have q2 := B2.cell (Patch.arr_head _).1
    have f2 := B2.frozen 0
    have B3 := Lib.hid (show Blk (w2.setCell ⟨w.heap.size + 1, 0, none⟩ (.int .u32 M)) (w.heap.size + 1) (Patch.arr ⟨M, 0, f8z⟩) by have := B2.store 0 (.int .u32 M); rw [Patch.put0] at this; exact this)
    have q3 := B3.out.cell (Patch.arr_head _).1
    clear B2
    go_wp2_with (fail)
    have R3 := Lib.hid (R2.out.far (q := ⟨w.heap.size + 1, 0, none⟩) (by simp) (.int .u32 M))
    have kk3 : Kept (some (w.heap.size + 1)) w2.heap.size w2 (w2.setCell ⟨w.heap.size + 1, 0, none⟩ (.int .u32 M)) := (by repeat (first | exact Kept.refl _ _ _ | refine Kept.drew ?_ | refine Kept.alloc ?_ (by first | omega | (simp; done) | (simp; omega)) _ | refine Kept.setCell ?_ (by first | (right; rfl) | (left; first | omega | (simp; done) | (simp; omega))) _ | refine Kept.then_kept ?_ (by assumption) (by first | omega | (simp; done) | (simp; omega)) | refine Kept.then_below ?_ (by assumption) (by first | omega | (simp; done) | (simp; omega)) | refine Kept.low ?_ (by assumption)))
    have hr3 : RdR (w2.setCell ⟨w.heap.size + 1, 0, none⟩ (.int .u32 M)) h (ptA st) := RdR.kept hr2 kk3 (by simp; omega)
    have kw3 : Kept (some h) w.heap.size w (w2.setCell ⟨w.heap.size + 1, 0, none⟩ (.int .u32 M)) := kw2.setCell (.inl (by simp)) _
    obtain ⟨w3, hw3⟩ : ∃ w3, w3 = w2.setCell ⟨w.heap.size + 1, 0, none⟩ (.int .u32 M) := ⟨_, rfl⟩
    have hz3 : w3.heap.size = w2.heap.size := by rw [hw3]; simp [World.setCell]
    rw [← hw3] at B3 R3 hr3 kw3 q3 ⊢
    clear hw3 q2 f2 kk3
    refine (c_ref05_Labels M (by omega) _).mono ?_
    rintro e w4 ⟨rfl, hb4⟩
    have hz4 := hb4.size
    have kw4 : Kept (some h) w.heap.size w w4 := kw3.then_below hb4 (by omega)
    have B4 := B3.out.below hb4 B3.out.lt
    have R4 := Lib.hid (R3.out.below hb4 R3.out.lt)
    have hr4 := hr3.below hb4
    clear q3
    obtain ⟨t1, t2⟩ := ptB_yes (st := st) (by rw [← HMM.out]; exact h8)
    have T2 := Lib.hid (HL.out.trans t2)
    have hbL := rdN_bd (ptA st) 65535
    have TI := Lib.hid (show rdN (ptA st) 65535 = (L : Int) by rw [T2.out]; omega)
    have HD := Lib.hid (show S = rdFs' true (bitsTo M 8) (rdN' (ptA st) 65535) by rw [← t1]; exact HD0.out)
    have HF1 := Lib.hid (show ptF st = rdFv true (bitsTo M 8) (rdN' (ptA st) 65535) f8z by rw [← t1]; exact HF.out)
    have q4 := B4.cell (Patch.arr_head _).2
    have f4 := B4.frozen 1
    have B4' := Lib.hid B4
    clear t1 t2 hbL B4
    go_wp2_with (fail)
    refine (c_ref01_RNum h (ptA st) 65535 _ hr4).mono ?_
    rintro e w5 ⟨rfl, hr5, hk5⟩
    rw [TI.out]
    have hz5 := hk5.size
    have kw5 : Kept (some h) w.heap.size w w5 := kw4.trans (hk5.mono (by omega))
    have B5 := B4'.out.kept hk5 (by omega) (by simp; omega)
    have R5 := Lib.hid (R4.out.kept hk5 (by omega) (by simp; omega))
    have q5 := B5.cell (Patch.arr_head _).2
    have f5 := B5.frozen 1
    have B6 := show Blk (w5.setCell ⟨w.heap.size + 1, 1, none⟩ (.int .u32 L)) (w.heap.size + 1) (Patch.arr ⟨M, L, f8z⟩) by have := B5.store 1 (.int .u32 L); rw [Patch.put1] at this; exact this
    have R6 := R5.out.far (q := ⟨w.heap.size + 1, 1, none⟩) (by simp) (.int .u32 L)
    have kk6 : Kept (some (w.heap.size + 1)) w5.heap.size w5 (w5.setCell ⟨w.heap.size + 1, 1, none⟩ (.int .u32 L)) := (by repeat (first | exact Kept.refl _ _ _ | refine Kept.drew ?_ | refine Kept.alloc ?_ (by first | omega | (simp; done) | (simp; omega)) _ | refine Kept.setCell ?_ (by first | (right; rfl) | (left; first | omega | (simp; done) | (simp; omega))) _ | refine Kept.then_kept ?_ (by assumption) (by first | omega | (simp; done) | (simp; omega)) | refine Kept.then_below ?_ (by assumption) (by first | omega | (simp; done) | (simp; omega)) | refine Kept.low ?_ (by assumption)))
    have hr6 : RdR (w5.setCell ⟨w.heap.size + 1, 1, none⟩ (.int .u32 L)) h (rdN' (ptA st) 65535) := RdR.kept hr5 kk6 (by simp; omega)
    have kw6 : Kept (some h) w.heap.size w (w5.setCell ⟨w.heap.size + 1, 1, none⟩ (.int .u32 L)) := kw5.setCell (.inl (by simp)) _
    have I0 := Lib.hid (show PatAt w h S (ptF st) M L 0 (rdN' (ptA st) 65535) f8z (w5.setCell ⟨w.heap.size + 1, 1, none⟩ (.int .u32 L)) from ⟨rfl, by rw [bitsFrom_zero]; exact HD.out.symm, by rw [bitsFrom_zero]; exact HF1.out.symm, hr6, ⟨_, rfl, R6⟩, B6, kw6⟩)
    clear B1 B3 B4' B5 B6 R1 R2 R3 R4 R5 R6 hr1 hr2 hr3 hr4 hr5 hr6 kw1 kw2 kw3 kw4 kw5 kw6 kk6 hk2 hb4 hk5 hz1 hz2 hz3 hz4 hz5 q4 f4
    go_wp2_with (fail)
    go_loopw [4] (fun i wr => ∃ (k : Nat) (st' : Rd) (f' : List Val), k ≤ 8 ∧ i = .int .i64 k ∧ PatAt w h S (ptF st) M L k st' f' wr)
      (fun i _ => 8 - (intOf i).toNat)
    case atStart => exact ⟨0, _, _, by omega, rfl, I0.out⟩
    case round =>
      clear I0 q5 f5
      obtain ⟨k, st', f', hk, rfl, I⟩ := hrel
      have IH := Lib.hid I
      have hwz := I.kept.size
      clear I
      by_cases hlt : k < 8
      · have cm := IH.out.C.cell (Patch.arr_head _).1
        cases hbit : M.testBit k
        · go_wp2_with (go_at_call 90; refine (c_ref03_Has M k (by omega) (by omega) _).mono ?_; rintro e w5 ⟨rfl, hb5⟩)
          go_roundw
          case rel => exact ⟨k + 1, st', f', by omega, by go_num, IH.out.no hlt hbit hb5⟩
          case measure => simp [intOf]; omega
        · go_wp2_with (fail)
          refine (c_ref03_Has M k (by omega) (by omega) _).mono ?_
          rintro e w5 ⟨rfl, hb5⟩
          have r5 := IH.out.rd.below hb5
          clear cm
          go_wp2_with (fail)
          refine (c_ref08_Value h st' _ r5).mono ?_
          rintro e w6 ⟨rfl, hr6, hk6⟩
          have C5 := IH.out.C.below hb5 IH.out.C.lt
          have C6 := Lib.hid (C5.kept hk6 C5.lt (by simp; omega))
          unfold Val.val
          go_wp2_with (with_reducible refine stS 36 (.tmp 29) (.tmp 27) rfl rfl ?_)
          refine Stop.mk (wpList_storeAt rfl _ _ _ rfl (w.heap.size + 1) (2 + k * 3) _ rfl rfl _ C6.out strV rfl (by rw [Patch.arr_size, IH.out.len]; simp; omega) (by simp [Value.oneCell']) ?_)
          intro w7 hb7 hk7
          rw [Patch.putV (by rw [IH.out.len]; exact hlt)] at hb7
          have hr7 : RdR w7 h (rdVal' st') := RdR.kept hr6 hk7 (by simp; omega)
          have B7 := Lib.hid hb7
          clear hb7
          go_wp2_with (fail)
          go_roundw
          case rel => exact ⟨k + 1, _, _, by omega, by go_num, IH.out.one hh hlt hbit hb5 hk6 hk7 hr7 B7.out⟩
          case measure => simp [intOf]; omega
      · obtain rfl : k = 8 := by omega
        obtain rfl : st' = S := IH.out.eS
        obtain ⟨z, hz, hR⟩ := IH.out.R
        have Rz := Lib.hid hR
        have Zz := Lib.hid hz
        have c0 := IH.out.rd.1.cell (i := 1) rfl
        clear hR hz
        go_wp2_with (with_reducible refine stS 39 (.tmp 2) (.tmp 35) rfl rfl ?_)
        refine Stop.mk (wsB rfl _ _ _ rfl w.heap.size _ rfl rfl _ Rz.out strP rfl (by rw [Zz.out]; rfl) (by simp [Value.oneCell']) ?_)
        intro w11 hb11 hk11
        have hE : st'.e ≠ 0 := by simpa using he
        have hv : rdPatch st = pz := rdPatch_bad (by rw [← HS.out]; exact hE)
        have B11 := Lib.hid (show Blk w11 w.heap.size pz.arr by unfold Patch.arr; exact hb11)
        clear hb11
        go_wp2_with (fail)
        exact bodyPost_ret (results_B rfl rfl B11.out strP (by unfold Patch.arr; rfl)) rfl ⟨by rw [hv], IH.out.rd.kept hk11 (by simp; omega), IH.out.kept.trans (hk11.one hwz (.inl (Nat.le_refl _)))⟩
end Go.Proofs.YtiedkcijjfmhaaaGreatDoor
namespace Go.Proofs.YtiedkcijjfmhaaaGreatDoor
open Go.RowKit

theorem Edit.size {e : Edit} (hf : e.p.f.length = 8) : e.arr.size = 29 := by rw [Edit.arr_size, hf]
end Go.Proofs.YtiedkcijjfmhaaaGreatDoor
