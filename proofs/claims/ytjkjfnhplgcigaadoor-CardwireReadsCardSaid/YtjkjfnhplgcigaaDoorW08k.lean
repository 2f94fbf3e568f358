/-
  The walk of the reference's Card: a card taken off bytes.
-/
import Derived.Test.YtjkjfnhplgcigaaDoorCra
import Derived.Test.YtjkjfnhplgcigaaDoorRpt
import Derived.Test.YtjkjfnhplgcigaaDoorW08c
namespace Go.Proofs.YtjkjfnhplgcigaaDoor
open Go.RowKit

/-- What stands when the fields below k have been read. -/
structure CrdAt (w : World) (h : Nat) (S : Rd) (F : List Val) (m : Nat) (a b : Int) (L : Nat) (k : Nat) (st : Rd) (f : List Val) (wr : World) : Prop where
  len : f.length = 8
  eS : rdFs' false (bitsFrom m k) st = S
  eF : S.e = 0 → rdFv false (bitsFrom m k) st f = F
  rd : RdR wr h st
  R : ∃ z, z.size = 27 ∧ Blk wr w.heap.size z
  C : Blk wr (w.heap.size + 1) (Card.arr ⟨a, b, L, f⟩)
  kept : Kept (some h) w.heap.size w wr
section
variable {w wr w' : World} {h : Nat} {S : Rd} {F : List Val} {m : Nat} {a b : Int} {L k : Nat} {st : Rd} {f : List Val}
theorem CrdAt.no (I : CrdAt w h S F m a b L k st f wr) (hk : k < 8) (hb : m.testBit k = false) (hw : Below wr.heap.size wr w') : CrdAt w h S F m a b L (k + 1) st f w' := by
  have e := bitsFrom_no hk hb
  obtain ⟨z, hz, hR⟩ := I.R
  exact ⟨I.len, by rw [← e]; exact I.eS, by rw [← e]; exact I.eF, I.rd.below hw, ⟨z, hz, hR.below hw hR.lt⟩, I.C.below hw I.C.lt, I.kept.then_below hw I.kept.size⟩
theorem CrdAt.skip (I : CrdAt w h S F m a b L k st f wr) (hk : k < 8) (hb : m.testBit k = true) (he : st.e ≠ 0) (hw : Below wr.heap.size wr w') : CrdAt w h S F m a b L (k + 1) st f w' := by
  have e := bitsFrom_yes hk hb
  obtain ⟨z, hz, hR⟩ := I.R
  have hS := I.eS
  refine ⟨I.len, ?_, fun h0 => ?_, I.rd.below hw, ⟨z, hz, hR.below hw hR.lt⟩, I.C.below hw I.C.lt, I.kept.then_below hw I.kept.size⟩
  · rw [e, rdFs', fldS_bad he] at hS; exact hS
  · rw [rdFs'_bad he] at hS; rw [hS] at he; exact absurd h0 he
theorem CrdAt.one (I : CrdAt w h S F m a b L k st f wr) (hh : h < w.heap.size) (hk : k < 8) (hb : m.testBit k = true) {w1 w2 w3 : World} (k0 : Below wr.heap.size wr w1) (k1 : Kept (some h) w1.heap.size w1 w2) (k2 : Kept (some (w.heap.size + 1)) w2.heap.size w2 w3) (k3 : Kept (some h) w3.heap.size w3 w')
    (hr : RdR w' h (fldS false st)) (hC : Blk w3 (w.heap.size + 1) (Card.arr ⟨a, b, L, f.set k (rdVal st)⟩)) : CrdAt w h S F m a b L (k + 1) (fldS false st) (f.set k (rdVal st)) w' := by
  have e := bitsFrom_yes hk hb
  obtain ⟨z, hz, hR⟩ := I.R
  have hS := I.eS
  have hF := I.eF
  rw [e] at hS hF
  have z0 := k0.size
  have z1 := k1.size
  have z2 := k2.size
  have zw := I.kept.size
  have zl := hR.lt
  have b1 := hR.below k0 hR.lt
  have b2 := b1.kept k1 b1.lt (by simp; omega)
  have b3 := b2.kept k2 b2.lt (by simp)
  refine ⟨by rw [List.length_set]; exact I.len, hS, hF, hr, ⟨z, hz, b3.kept k3 b3.lt (by simp; omega)⟩, hC.kept k3 hC.lt (by simp; omega), ?_⟩
  exact (((I.kept.then_below k0 zw).trans (k1.mono (by omega))).trans (k2.one (by omega) (.inl (by omega)))).trans (k3.mono (by omega))
end
set_option maxHeartbeats 8000000 in
set_option maxRecDepth 4000 in
theorem c_ref08_Card (h : Nat) (st : Rd) (w : World) (hr : RdR w h st) : Calls Tryd.prog 31 #[.pointer (some ⟨h, 0, none⟩)] w (RetR h (rdCard' st) w (.agg (rdCard st).arr)) := by
  have hh := hr.lt
  have hdef := rdCard'_def st
  have hM : (rdN (cdC st) 255) = (cdM st : Int) := by have := rdN_bd (cdC st) 255; unfold cdM; omega
  have hb255 := rdN_bd (cdC st) 255
  have hbL := rdN_bd (cdB st) 65535
  have hfl := cdF_len st
  have HFL := Lib.hid hfl
  obtain ⟨S, hS⟩ : ∃ S, S = rdCard' st := ⟨_, rfl⟩
  obtain ⟨L, hL⟩ : ∃ L, L = (rdN (cdB st) 65535).toNat := ⟨_, rfl⟩
  have hLi : (rdN (cdB st) 65535) = (L : Int) := by omega
  have hLb : L ≤ 65535 := by omega
  obtain ⟨M, hMm⟩ : ∃ M, M = cdM st := ⟨_, rfl⟩
  rw [← hMm] at hM
  have hM2 : M ≤ 255 := by omega
  have HL := Lib.hid hL
  have HLi := Lib.hid hLi
  have HM := Lib.hid hM
  have HMM := Lib.hid hMm
  have HS := Lib.hid hS
  rw [← hS, ← hMm] at hdef
  have HD := Lib.hid hdef
  have HF := Lib.hid (show cdF st = rdFv false (bitsTo M 8) (cdD st) f8z by rw [hMm]; rfl)
  obtain ⟨a, ha⟩ : ∃ a, a = rdN st 1073741823 := ⟨_, rfl⟩
  obtain ⟨b, hb⟩ : ∃ b, b = rdN (cdA st) 1099511627776 := ⟨_, rfl⟩
  have Ha := Lib.hid ha
  have Hb := Lib.hid hb
  clear hL hLi hM hMm hS hdef hfl ha hb hb255 hbL
  cases he : (S.e != 0)
  all_goals
    rw [← HS.out]
    go_enter Tryd.func31, Tryd.ntmps31
    go_wp2_with (with_reducible refine stop_store 40 (.tmp 3) (.tmp 6) rfl rfl ?_)
    refine Stop.mk (wpList_storeB rfl _ _ _ rfl (w.heap.size + 1) _ (by simp [go_sem]) rfl _ (by simpa using Blk.new (w.alloc _) _ _) strC rfl rfl (by simp [Value.oneCell']) ?_)
    intro w1 hb1 hk1
    have B1 := Lib.hid (show Blk w1 (w.heap.size + 1) cz.arr by unfold Card.arr; exact hb1)
    clear hb1
    have R1 := Lib.hid (((Blk.new w _ _).alloc _).kept hk1 (by simp; omega) (by simp))
    have hz1 := hk1.size
    simp only [World.size_alloc] at hz1
    have kw1 : Kept (some h) w.heap.size w w1 := (((Kept.refl _ _ _).alloc (Nat.le_refl _) _).alloc (by simp) _).trans (hk1.one (by simp; omega) (.inl (by omega)))
    have hr1 : RdR w1 h st := ((hr.below ((Below.refl _ _).alloc (Nat.le_refl _) _)).below ((Below.refl _ _).alloc (Nat.le_refl _) _)).kept hk1 (by simp; omega)
    clear hk1
    go_wp2_with (fail)
    refine (c_ref08_above h st 1073741823 _ hr1).mono ?_
    rintro e w2 ⟨rfl, hr2, hk2⟩
    rw [← Ha.out]
    have hz2 := hk2.size
    have kw2 : Kept (some h) w.heap.size w w2 := kw1.trans (hk2.mono (by omega))
    have B2 := B1.out.kept hk2 (by omega) (by simp; omega)
    have R2 := Lib.hid (R1.out.kept hk2 (by omega) (by simp; omega))
    have q2 := B2.cell (Card.arr_head _).1
    have f2 := B2.frozen 0
    have B3 := Lib.hid (show Blk (w2.setCell ⟨w.heap.size + 1, 0, none⟩ (.int .i64 a)) (w.heap.size + 1) (Card.arr ⟨a, 0, 0, f8z⟩) by have := B2.store 0 (.int .i64 a); rw [Card.put0] at this; exact this)
    clear B2
    go_wp2_with (fail)
    have R3 := Lib.hid (R2.out.far (q := ⟨w.heap.size + 1, 0, none⟩) (by simp) (.int .i64 a))
    have kk3 : Kept (some (w.heap.size + 1)) w2.heap.size w2 (w2.setCell ⟨w.heap.size + 1, 0, none⟩ (.int .i64 a)) := (by repeat (first | exact Kept.refl _ _ _ | refine Kept.drew ?_ | refine Kept.alloc ?_ (by first | omega | (simp; done) | (simp; omega)) _ | refine Kept.setCell ?_ (by first | (right; rfl) | (left; first | omega | (simp; done) | (simp; omega))) _ | refine Kept.then_kept ?_ (by assumption) (by first | omega | (simp; done) | (simp; omega)) | refine Kept.then_below ?_ (by assumption) (by first | omega | (simp; done) | (simp; omega)) | refine Kept.low ?_ (by assumption)))
    have hr3 : RdR (w2.setCell ⟨w.heap.size + 1, 0, none⟩ (.int .i64 a)) h (cdA st) := RdR.kept hr2 kk3 (by simp; omega)
    have kw3 : Kept (some h) w.heap.size w (w2.setCell ⟨w.heap.size + 1, 0, none⟩ (.int .i64 a)) := kw2.setCell (.inl (by simp)) _
    obtain ⟨w3, hw3⟩ : ∃ w3, w3 = w2.setCell ⟨w.heap.size + 1, 0, none⟩ (.int .i64 a) := ⟨_, rfl⟩
    have hz3 : w3.heap.size = w2.heap.size := by rw [hw3]; simp [World.setCell]
    rw [← hw3] at B3 R3 hr3 kw3 ⊢
    clear hw3 q2 f2 kk3
    refine (c_ref08_above h (cdA st) 1099511627776 _ hr3).mono ?_
    rintro e w4 ⟨rfl, hr4, hk4⟩
    rw [← Hb.out]
    have hz4 := hk4.size
    have kw4 : Kept (some h) w.heap.size w w4 := kw3.trans (hk4.mono (by omega))
    have B4 := B3.out.kept hk4 (by omega) (by simp; omega)
    have R4 := Lib.hid (R3.out.kept hk4 (by omega) (by simp; omega))
    have q4 := B4.cell (Card.arr_head _).2.1
    have f4 := B4.frozen 1
    have B5 := Lib.hid (show Blk (w4.setCell ⟨w.heap.size + 1, 1, none⟩ (.int .i64 b)) (w.heap.size + 1) (Card.arr ⟨a, b, 0, f8z⟩) by have := B4.store 1 (.int .i64 b); rw [Card.put1] at this; exact this)
    clear B4
    go_wp2_with (fail)
    have R5 := Lib.hid (R4.out.far (q := ⟨w.heap.size + 1, 1, none⟩) (by simp) (.int .i64 b))
    have kk5 : Kept (some (w.heap.size + 1)) w4.heap.size w4 (w4.setCell ⟨w.heap.size + 1, 1, none⟩ (.int .i64 b)) := (by repeat (first | exact Kept.refl _ _ _ | refine Kept.drew ?_ | refine Kept.alloc ?_ (by first | omega | (simp; done) | (simp; omega)) _ | refine Kept.setCell ?_ (by first | (right; rfl) | (left; first | omega | (simp; done) | (simp; omega))) _ | refine Kept.then_kept ?_ (by assumption) (by first | omega | (simp; done) | (simp; omega)) | refine Kept.then_below ?_ (by assumption) (by first | omega | (simp; done) | (simp; omega)) | refine Kept.low ?_ (by assumption)))
    have hr5 : RdR (w4.setCell ⟨w.heap.size + 1, 1, none⟩ (.int .i64 b)) h (cdB st) := RdR.kept hr4 kk5 (by simp; omega)
    have kw5 : Kept (some h) w.heap.size w (w4.setCell ⟨w.heap.size + 1, 1, none⟩ (.int .i64 b)) := kw4.setCell (.inl (by simp)) _
    obtain ⟨w5, hw5⟩ : ∃ w5, w5 = w4.setCell ⟨w.heap.size + 1, 1, none⟩ (.int .i64 b) := ⟨_, rfl⟩
    have hz5 : w5.heap.size = w4.heap.size := by rw [hw5]; simp [World.setCell]
    rw [← hw5] at B5 R5 hr5 kw5 ⊢
    clear hw5 q4 f4 kk5
    refine (c_ref01_RNum h (cdB st) 65535 _ hr5).mono ?_
    rintro e w6 ⟨rfl, hr6, hk6⟩
    rw [HLi.out]
    have hz6 := hk6.size
    have kw6 : Kept (some h) w.heap.size w w6 := kw5.trans (hk6.mono (by omega))
    have B6 := B5.out.kept hk6 (by omega) (by simp; omega)
    have R6 := Lib.hid (R5.out.kept hk6 (by omega) (by simp; omega))
    have q6 := B6.cell (Card.arr_head _).2.2
    have f6 := B6.frozen 2
    have B7 := Lib.hid (show Blk (w6.setCell ⟨w.heap.size + 1, 2, none⟩ (.int .u32 L)) (w.heap.size + 1) (Card.arr ⟨a, b, L, f8z⟩) by have := B6.store 2 (.int .u32 L); rw [Card.put2] at this; exact this)
    clear B6
    go_wp2_with (fail)
    have R7 := Lib.hid (R6.out.far (q := ⟨w.heap.size + 1, 2, none⟩) (by simp) (.int .u32 L))
    have kk7 : Kept (some (w.heap.size + 1)) w6.heap.size w6 (w6.setCell ⟨w.heap.size + 1, 2, none⟩ (.int .u32 L)) := (by repeat (first | exact Kept.refl _ _ _ | refine Kept.drew ?_ | refine Kept.alloc ?_ (by first | omega | (simp; done) | (simp; omega)) _ | refine Kept.setCell ?_ (by first | (right; rfl) | (left; first | omega | (simp; done) | (simp; omega))) _ | refine Kept.then_kept ?_ (by assumption) (by first | omega | (simp; done) | (simp; omega)) | refine Kept.then_below ?_ (by assumption) (by first | omega | (simp; done) | (simp; omega)) | refine Kept.low ?_ (by assumption)))
    have hr7 : RdR (w6.setCell ⟨w.heap.size + 1, 2, none⟩ (.int .u32 L)) h (cdC st) := RdR.kept hr6 kk7 (by simp; omega)
    have kw7 : Kept (some h) w.heap.size w (w6.setCell ⟨w.heap.size + 1, 2, none⟩ (.int .u32 L)) := kw6.setCell (.inl (by simp)) _
    obtain ⟨w7, hw7⟩ : ∃ w7, w7 = w6.setCell ⟨w.heap.size + 1, 2, none⟩ (.int .u32 L) := ⟨_, rfl⟩
    have hz7 : w7.heap.size = w6.heap.size := by rw [hw7]; simp [World.setCell]
    rw [← hw7] at B7 R7 hr7 kw7 ⊢
    clear hw7 q6 f6 kk7
    refine (c_ref01_RNum h (cdC st) 255 _ hr7).mono ?_
    rintro e w8 ⟨rfl, hr8, hk8⟩
    rw [HM.out]
    have hz8 := hk8.size
    have kw8 : Kept (some h) w.heap.size w w8 := kw7.trans (hk8.mono (by omega))
    have B8 := B7.out.kept hk8 (by omega) (by simp; omega)
    have R8 := R7.out.kept hk8 (by omega) (by simp; omega)
    have I0 := Lib.hid (show CrdAt w h S (cdF st) M a b L 0 (cdD st) f8z w8 from ⟨rfl, by rw [bitsFrom_zero]; exact HD.out.symm, fun _ => by rw [bitsFrom_zero]; exact HF.out.symm, hr8, ⟨_, rfl, R8⟩, B8, kw8⟩)
    clear B1 B3 B5 B7 B8 R1 R2 R3 R4 R5 R6 R7 R8 hr1 hr2 hr3 hr4 hr5 hr6 hr7 hr8 kw1 kw2 kw3 kw4 kw5 kw6 kw7 kw8 hk2 hk4 hk6 hk8 hz1 hz2 hz3 hz4 hz5 hz6 hz7 hz8
    go_wp2_with (fail)
    go_loopw [5] (fun i wr => ∃ (k : Nat) (st' : Rd) (f' : List Val), k ≤ 8 ∧ i = .int .i64 k ∧ CrdAt w h S (cdF st) M a b L k st' f' wr)
      (fun i _ => 8 - (intOf i).toNat)
    case atStart => exact ⟨0, _, _, by omega, rfl, I0.out⟩
    case round =>
      clear I0
      obtain ⟨k, st', f', hk, rfl, I⟩ := hrel
      have IH := Lib.hid I
      have hwz := I.kept.size
      clear I
      by_cases hlt : k < 8
      · cases hbit : M.testBit k
        · go_wp2_with (go_at_call 65; refine (c_ref03_Has M k (by omega) (by omega) _).mono ?_; rintro e w5 ⟨rfl, hb5⟩)
          go_roundw
          case rel => exact ⟨k + 1, st', f', by omega, by go_num, IH.out.no hlt hbit hb5⟩
          case measure => simp [intOf]; omega
        · by_cases h0 : st'.e = 0
          · have k0 : (st'.e == 0) = true := by simpa using h0
            clear h0
            by_cases h1 : (rdVal' st').e = 0
            · have k1 : ((rdVal' st').e == 0) = true := by simpa using h1
              clear h1
              by_cases h2 : (rdVal st').kind = 0
              · have k2 : ((rdVal st').kind == 0) = true := by simpa using h2
                have Fz := Lib.hid (fldS_zero h2)
                clear h2
                go_wp2_with (fail)
                refine (c_ref03_Has M k (by omega) (by omega) _).mono ?_
                rintro e w5 ⟨rfl, hb5⟩
                have r5 := IH.out.rd.below hb5
                have c5 := r5.1.cell (i := 1) rfl
                go_wp2_with (fail)
                refine (c_ref08_Value h st' _ r5).mono ?_
                rintro e w6 ⟨rfl, hr6, hk6⟩
                clear c5
                have C5 := IH.out.C.below hb5 IH.out.C.lt
                have C6 := Lib.hid (C5.kept hk6 C5.lt (by simp; omega))
                unfold Val.val
                go_wp2_with (with_reducible refine stop_store 24 (.tmp 38) (.tmp 36) rfl rfl ?_)
                refine Stop.mk (wpList_storeAt rfl _ _ _ rfl (w.heap.size + 1) (3 + k * 3) _ rfl rfl _ C6.out strV rfl (by rw [Card.arr_size, IH.out.len]; simp; omega) (by simp [Value.oneCell']) ?_)
                intro w7 hb7 hk7
                rw [Card.putV (by rw [IH.out.len]; exact hlt)] at hb7
                have hr7 : RdR w7 h (rdVal' st') := RdR.kept hr6 hk7 (by simp; omega)
                have c7 := hr7.1.cell (i := 1) rfl
                have cv := hb7.cell (Card.arr_val (k := k) (by rw [List.length_set, IH.out.len]; exact hlt)).1
                simp only [List.getElem_set_self] at cv
                have B7 := Lib.hid hb7
                clear hb7
                go_wp2_with (fail)
                refine (c_ref01_Fail h (rdVal' st') 3 _ hr7).mono ?_
                rintro e w8 ⟨rfl, hr8, hk8⟩
                clear c7 cv
                rw [← Fz.out] at hr8
                go_wp2_with (fail)
                go_roundw
                case rel => exact ⟨k + 1, _, _, by omega, by go_num, IH.out.one hh hlt hbit hb5 hk6 hk7 hk8 hr8 B7.out⟩
                case measure => simp [intOf]; omega
              · have k2 : ((rdVal st').kind == 0) = false := by simpa using h2
                have Fz := Lib.hid (fldS_pos (b := false) h2)
                clear h2
                go_wp2_with (fail)
                refine (c_ref03_Has M k (by omega) (by omega) _).mono ?_
                rintro e w5 ⟨rfl, hb5⟩
                have r5 := IH.out.rd.below hb5
                have c5 := r5.1.cell (i := 1) rfl
                go_wp2_with (fail)
                refine (c_ref08_Value h st' _ r5).mono ?_
                rintro e w6 ⟨rfl, hr6, hk6⟩
                clear c5
                have C5 := IH.out.C.below hb5 IH.out.C.lt
                have C6 := Lib.hid (C5.kept hk6 C5.lt (by simp; omega))
                unfold Val.val
                go_wp2_with (with_reducible refine stop_store 24 (.tmp 38) (.tmp 36) rfl rfl ?_)
                refine Stop.mk (wpList_storeAt rfl _ _ _ rfl (w.heap.size + 1) (3 + k * 3) _ rfl rfl _ C6.out strV rfl (by rw [Card.arr_size, IH.out.len]; simp; omega) (by simp [Value.oneCell']) ?_)
                intro w7 hb7 hk7
                rw [Card.putV (by rw [IH.out.len]; exact hlt)] at hb7
                have hr7 : RdR w7 h (rdVal' st') := RdR.kept hr6 hk7 (by simp; omega)
                have c7 := hr7.1.cell (i := 1) rfl
                have cv := hb7.cell (Card.arr_val (k := k) (by rw [List.length_set, IH.out.len]; exact hlt)).1
                simp only [List.getElem_set_self] at cv
                have B7 := Lib.hid hb7
                clear hb7
                rw [← Fz.out] at hr7
                go_wp2_with (fail)
                go_roundw
                case rel => exact ⟨k + 1, _, _, by omega, by go_num, IH.out.one hh hlt hbit hb5 hk6 hk7 (Kept.refl _ _ _) hr7 B7.out⟩
                case measure => simp [intOf]; omega
            · have k1 : ((rdVal' st').e == 0) = false := by simpa using h1
              have Fz := Lib.hid (show fldS false st' = rdVal' st' by rw [fldS_zero (by rw [rdVal_bad h1]), rdF_err h1])
              clear h1
              go_wp2_with (fail)
              refine (c_ref03_Has M k (by omega) (by omega) _).mono ?_
              rintro e w5 ⟨rfl, hb5⟩
              have r5 := IH.out.rd.below hb5
              have c5 := r5.1.cell (i := 1) rfl
              go_wp2_with (fail)
              refine (c_ref08_Value h st' _ r5).mono ?_
              rintro e w6 ⟨rfl, hr6, hk6⟩
              clear c5
              have C5 := IH.out.C.below hb5 IH.out.C.lt
              have C6 := Lib.hid (C5.kept hk6 C5.lt (by simp; omega))
              unfold Val.val
              go_wp2_with (with_reducible refine stop_store 24 (.tmp 38) (.tmp 36) rfl rfl ?_)
              refine Stop.mk (wpList_storeAt rfl _ _ _ rfl (w.heap.size + 1) (3 + k * 3) _ rfl rfl _ C6.out strV rfl (by rw [Card.arr_size, IH.out.len]; simp; omega) (by simp [Value.oneCell']) ?_)
              intro w7 hb7 hk7
              rw [Card.putV (by rw [IH.out.len]; exact hlt)] at hb7
              have hr7 : RdR w7 h (rdVal' st') := RdR.kept hr6 hk7 (by simp; omega)
              have c7 := hr7.1.cell (i := 1) rfl
              have B7 := Lib.hid hb7
              clear hb7
              go_wp2_with (fail)
              rw [← Fz.out] at hr7
              go_roundw
              case rel => exact ⟨k + 1, _, _, by omega, by go_num, IH.out.one hh hlt hbit hb5 hk6 hk7 (Kept.refl _ _ _) hr7 B7.out⟩
              case measure => simp [intOf]; omega
          · have k0 : (st'.e == 0) = false := by simpa using h0
            have H0 := Lib.hid h0
            clear h0
            go_wp2_with (fail)
            refine (c_ref03_Has M k (by omega) (by omega) _).mono ?_
            rintro e w5 ⟨rfl, hb5⟩
            have c5 := (IH.out.rd.below hb5).1.cell (i := 1) rfl
            go_wp2_with (fail)
            go_roundw
            case rel => exact ⟨k + 1, st', f', by omega, by go_num, IH.out.skip hlt hbit H0.out hb5⟩
            case measure => simp [intOf]; omega
      · obtain rfl : k = 8 := by omega
        obtain rfl : st' = S := IH.out.eS
        obtain ⟨z, hz, hR⟩ := IH.out.R
        have Rz := Lib.hid hR
        have Zz := Lib.hid hz
        have c0 := IH.out.rd.1.cell (i := 1) rfl
        clear hR hz
        first
        | (go_wp2_with (with_reducible refine stop_load 40 (.tmp 3) rfl rfl ?_)
           refine Stop.mk (wpList_loadB rfl _ _ rfl (w.heap.size + 1) rfl _ IH.out.C strC (by rw [Card.arr_size, IH.out.len]) ?_)
           go_wp2_with (with_reducible refine stop_store 40 (.tmp 2) (.tmp 60) rfl rfl ?_)
           refine Stop.mk (wpList_storeB rfl _ _ _ rfl w.heap.size _ rfl rfl _ Rz.out strC (by rw [Card.arr_size, IH.out.len]) (by rw [Card.arr_size, IH.out.len, Zz.out]) (Card.arr_ones _) ?_)
           intro w11 hb11 hk11
           have hE : st'.e = 0 := by simpa using he
           have hv : rdCard st = cdCard st := rdCard_ok (by rw [← HS.out]; exact hE)
           have B11 := Lib.hid hb11
           clear hb11
           go_wp2_with (fail)
           exact bodyPost_ret (results_B rfl rfl B11.out strC (by rw [Card.arr_size, IH.out.len])) rfl ⟨by rw [hv, HL.out, Ha.out, Hb.out, show f' = cdF st from IH.out.eF hE]; rfl, IH.out.rd.kept hk11 (by simp; omega), IH.out.kept.trans (hk11.one hwz (.inl (Nat.le_refl _)))⟩)
        | (go_wp2_with (with_reducible refine stop_store 40 (.tmp 2) (.tmp 59) rfl rfl ?_)
           refine Stop.mk (wpList_storeB rfl _ _ _ rfl w.heap.size _ rfl rfl _ Rz.out strC rfl (by rw [Zz.out]; rfl) (by simp [Value.oneCell']) ?_)
           intro w11 hb11 hk11
           have hE : st'.e ≠ 0 := by simpa using he
           have hv : rdCard st = cz := rdCard_bad (by rw [← HS.out]; exact hE)
           have B11 := Lib.hid (show Blk w11 w.heap.size cz.arr by unfold Card.arr; exact hb11)
           clear hb11
           go_wp2_with (fail)
           exact bodyPost_ret (results_B rfl rfl B11.out strC (by unfold Card.arr; rfl)) rfl ⟨by rw [hv], IH.out.rd.kept hk11 (by simp; omega), IH.out.kept.trans (hk11.one hwz (.inl (Nat.le_refl _)))⟩)
end Go.Proofs.YtjkjfnhplgcigaaDoor
