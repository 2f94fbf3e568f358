/-
  The walk of chapter 8's Card: a card taken off bytes.
-/
import Derived.Test.YtjkjfnhplgcigaaDoorCra
import Derived.Test.YtjkjfnhplgcigaaDoorRpt
namespace Go.Proofs.YtjkjfnhplgcigaaDoor
open Go.RowKit

set_option maxHeartbeats 4000000 in
set_option maxRecDepth 4000 in
theorem c_cardwire_Card (p : Option Nat) (st : Rd) (w : World) (hT : Tab w) (hr : RdP w p st) : Calls Tryd.prog 30 #[ptr p] w (RetP p (rdCard' st) w (.agg (rdCard st).arr)) := by
  have hpl := fun g (hg : p = some g) => hr.lt hg
  have ht := hr.tab hT
  have hdef := rdCard'_def st
  have hM : (rdN (cdC st) 255) = (cdM st : Int) := by have := rdN_bd (cdC st) 255; unfold cdM; omega
  have hM2 : cdM st < 4294967296 := by have := rdN_bd (cdC st) 255; omega
  have hb255 := rdN_bd (cdC st) 255
  have hfl := cdF_len st
  have HFL := Lib.hid hfl
  have HM := Lib.hid hM
  clear hM hfl
  obtain ⟨S, hS⟩ : ∃ S, S = rdCard' st := ⟨_, rfl⟩
  obtain ⟨L, hL⟩ : ∃ L, L = (rdN (cdB st) 65535).toNat := ⟨_, rfl⟩
  have HL := Lib.hid hL
  clear hL
  have HS := Lib.hid hS
  rw [← hS] at hdef
  have HD := Lib.hid hdef
  clear hS hdef
  cases he : (S.e != 0)
  all_goals
    rw [← HS.out]
    go_enter Tryd.func30, Tryd.ntmps30
    go_wp2_with (fail)
    refine (c_cardwire_above p st 1073741823 _ (hr.below ((Below.refl _ _).alloc (Nat.le_refl _) _))).mono ?_
    rintro e w1 ⟨rfl, hr1, hk1⟩
    have hz1 := hk1.size
    simp only [World.size_alloc] at hz1
    have kw1 : Kept p w.heap.size w w1 := (by repeat (first | exact Kept.refl _ _ _ | refine Kept.drew ?_ | refine Kept.alloc ?_ (by first | omega | (simp; done) | (simp; omega)) _ | refine Kept.setCell ?_ (by first | (right; rfl) | (left; first | omega | (simp; done) | (simp; omega))) _ | refine Kept.then_kept ?_ (by assumption) (by first | omega | (simp; done) | (simp; omega)) | refine Kept.then_below ?_ (by assumption) (by first | omega | (simp; done) | (simp; omega)) | refine Kept.low ?_ (by assumption)))
    have R1 := Lib.hid ((Blk.new w _ _).kept hk1 (by simp) (ne_of_lt hpl (Nat.le_refl _)))
    go_wp2_with (with_reducible refine stop_store 40 (.tmp 3) (.tmp 6) rfl rfl ?_)
    refine Stop.mk (wpList_storeB rfl _ _ _ rfl w1.heap.size _ rfl rfl _ (Blk.new _ _ _) strC rfl rfl (by simp [Value.oneCell']) ?_)
    intro w2 hb2 hk2
    have B2 := Lib.hid (show Blk w2 w1.heap.size (Card.arr ⟨rdN st 1073741823, 0, 0, f8z⟩) by unfold Card.arr; exact hb2)
    clear hb2
    have R2 := Lib.hid ((R1.out.alloc _).kept hk2 (by simp; omega) (by simp; omega))
    have hz2 := hk2.size
    simp only [World.size_alloc] at hz2
    have kw2 : Kept p w.heap.size w w2 := (kw1.alloc (by omega) _).trans (hk2.one (by simp; omega) (.inl (by omega)))
    have hr2 : RdP w2 p (cdA st) := (hr1.below ((Below.refl _ _).alloc (Nat.le_refl _) _)).own (b := w1.heap.size) hk2 (fun g hg => by have := hpl g hg; omega)
    go_wp2_with (fail)
    refine (c_cardwire_above p (cdA st) 1099511627776 _ hr2).mono ?_
    rintro e w3 ⟨rfl, hr3, hk3⟩
    have hz3 := hk3.size
    have kw3 : Kept p w.heap.size w w3 := kw2.trans (hk3.mono (by omega))
    have B3 := B2.out.kept hk3 (by omega) (ne_of_lt hpl (by omega))
    have R3 := Lib.hid (R2.out.kept hk3 (by omega) (ne_of_lt hpl (by omega)))
    have q31 := B3.cell (Card.arr_head _).2.1
    have f31 := B3.frozen 1
    have B3' := Lib.hid B3
    clear B3
    go_wp2_with (fail)
    have B4 := Lib.hid (show Blk (w3.setCell ⟨w1.heap.size, 1, none⟩ (.int .i64 (rdN (cdA st) 1099511627776))) w1.heap.size (Card.arr ⟨rdN st 1073741823, rdN (cdA st) 1099511627776, 0, f8z⟩) by have := B3'.out.store 1 (.int .i64 (rdN (cdA st) 1099511627776)); rw [Card.put1] at this; exact this)
    have R4 := Lib.hid (R3.out.far (q := ⟨w1.heap.size, 1, none⟩) (by simp; omega) (.int .i64 (rdN (cdA st) 1099511627776)))
    have hr4 : RdP (w3.setCell ⟨w1.heap.size, 1, none⟩ (.int .i64 (rdN (cdA st) 1099511627776))) p (cdB st) := RdP.own (b := w1.heap.size) hr3 (by repeat (first | exact Kept.refl _ _ _ | refine Kept.drew ?_ | refine Kept.alloc ?_ (by first | omega | (simp; done) | (simp; omega)) _ | refine Kept.setCell ?_ (by first | (right; rfl) | (left; first | omega | (simp; done) | (simp; omega))) _ | refine Kept.then_kept ?_ (by assumption) (by first | omega | (simp; done) | (simp; omega)) | refine Kept.then_below ?_ (by assumption) (by first | omega | (simp; done) | (simp; omega)) | refine Kept.low ?_ (by assumption))) (fun g hg => by have := hpl g hg; omega)
    have kw4 : Kept p w.heap.size w (w3.setCell ⟨w1.heap.size, 1, none⟩ (.int .i64 (rdN (cdA st) 1099511627776))) := kw3.setCell (.inl (by simp; omega)) _
    obtain ⟨w4, hw4⟩ : ∃ w4, w4 = w3.setCell ⟨w1.heap.size, 1, none⟩ (.int .i64 (rdN (cdA st) 1099511627776)) := ⟨_, rfl⟩
    have hz4 : w4.heap.size = w3.heap.size := by rw [hw4]; simp [World.setCell]
    rw [← hw4] at B4 R4 hr4 kw4 ⊢
    clear hw4 q31 f31
    refine (c_cardwire_labels p (cdB st) _ hr4).mono ?_
    rintro e w5 ⟨rfl, hr5, hk5⟩
    rw [← HL.out]
    have hz5 := hk5.size
    have kw5 : Kept p w.heap.size w w5 := kw4.trans (hk5.mono (by omega))
    have B5 := B4.out.kept hk5 (by omega) (ne_of_lt hpl (by omega))
    have R5 := Lib.hid (R4.out.kept hk5 (by omega) (ne_of_lt hpl (by omega)))
    have q52 := B5.cell (Card.arr_head _).2.2
    have f52 := B5.frozen 2
    have B5' := Lib.hid B5
    clear B5
    go_wp2_with (fail)
    have B6 := Lib.hid (show Blk (w5.setCell ⟨w1.heap.size, 2, none⟩ (.int .u32 L)) w1.heap.size (Card.arr ⟨rdN st 1073741823, rdN (cdA st) 1099511627776, L, f8z⟩) by have := B5'.out.store 2 (.int .u32 L); rw [Card.put2] at this; exact this)
    have R6 := Lib.hid (R5.out.far (q := ⟨w1.heap.size, 2, none⟩) (by simp; omega) (.int .u32 L))
    have hr6 : RdP (w5.setCell ⟨w1.heap.size, 2, none⟩ (.int .u32 L)) p (cdC st) := RdP.own (b := w1.heap.size) hr5 (by repeat (first | exact Kept.refl _ _ _ | refine Kept.drew ?_ | refine Kept.alloc ?_ (by first | omega | (simp; done) | (simp; omega)) _ | refine Kept.setCell ?_ (by first | (right; rfl) | (left; first | omega | (simp; done) | (simp; omega))) _ | refine Kept.then_kept ?_ (by assumption) (by first | omega | (simp; done) | (simp; omega)) | refine Kept.then_below ?_ (by assumption) (by first | omega | (simp; done) | (simp; omega)) | refine Kept.low ?_ (by assumption))) (fun g hg => by have := hpl g hg; omega)
    have kw6 : Kept p w.heap.size w (w5.setCell ⟨w1.heap.size, 2, none⟩ (.int .u32 L)) := kw5.setCell (.inl (by simp; omega)) _
    obtain ⟨w6, hw6⟩ : ∃ w6, w6 = w5.setCell ⟨w1.heap.size, 2, none⟩ (.int .u32 L) := ⟨_, rfl⟩
    have hz6 : w6.heap.size = w5.heap.size := by rw [hw6]; simp [World.setCell]
    rw [← hw6] at B6 R6 hr6 kw6 ⊢
    clear hw6 q52 f52
    refine (c_octet_RNum p (cdC st) 255 _ hr6).mono ?_
    rintro e w7 ⟨rfl, hr7, hk7⟩
    have hz7 := hk7.size
    have kw7 : Kept p w.heap.size w w7 := kw6.trans (hk7.mono (by omega))
    have B7 := Lib.hid (B6.out.kept hk7 (by omega) (ne_of_lt hpl (by omega)))
    have R7 := Lib.hid (R6.out.kept hk7 (by omega) (ne_of_lt hpl (by omega)))
    go_wp2_with (fail)
    rw [HM.out]
    refine (c_cardwire_fields p (cdD st) (cdM st) false _ hM2 (hT.kept kw7 ht) hr7).mono ?_
    rintro e w8 ⟨rfl, hr8, hk8⟩
    have hz8 := hk8.size
    rw [← HD.out] at hr8
    have kw8 : Kept p w.heap.size w w8 := kw7.trans (hk8.mono (by omega))
    have B8 := Lib.hid (B7.out.kept hk8 (by omega) (ne_of_lt hpl (by omega)))
    have R8 := Lib.hid (R7.out.kept hk8 (by omega) (ne_of_lt hpl (by omega)))
    go_wp2_with (with_reducible refine stop_store 25 (.tmp 18) (.tmp 17) rfl rfl ?_)
    refine Stop.mk (wpList_storeAt rfl _ _ _ rfl w1.heap.size 3 (farr (cdF st)) rfl rfl _ B8.out strF (by rw [farr_size, HFL.out]) (by rw [Card.arr_size, farr_size, HFL.out]; simp) (farr_one _) ?_)
    intro w9 hb9 hk9
    rw [Card.putF (by rw [HFL.out]; rfl)] at hb9
    have B9 := Lib.hid hb9
    clear hb9
    have hz9 := hk9.size
    have kw9 : Kept p w.heap.size w w9 := kw8.trans (hk9.one (by omega) (.inl (by omega)))
    have R9 := Lib.hid (R8.out.kept hk9 (by omega) (by simp; omega))
    have hr9 : RdP w9 p S := hr8.own (b := w1.heap.size) hk9 (fun g hg => by have := hpl g hg; omega)
    go_wp2_with (fail)
    refine (c_octet_Err p S _ hr9).mono ?_
    rintro e w10 ⟨rfl, hr10, hk10⟩
    have hz10 := hk10.size
    have kw10 : Kept p w.heap.size w w10 := kw9.trans (hk10.mono (by omega))
    have B10 := Lib.hid (B9.out.kept hk10 (by omega) (ne_of_lt hpl (by omega)))
    have R10 := Lib.hid (R9.out.kept hk10 (by omega) (ne_of_lt hpl (by omega)))
    clear B2 B3' B4 B5' B6 B7 B8 B9 R1 R2 R3 R4 R5 R6 R7 R8 R9 hk1 hk2 hk3 hk5 hk7 hk8 hk9 hk10 hr1 hr2 hr3 hr4 hr5 hr6 hr7 hr8 hr9 kw1 kw2 kw3 kw4 kw5 kw6 kw7 kw8 kw9
  · go_wp2_with (with_reducible refine stop_load 40 (.tmp 3) rfl rfl ?_)
    refine Stop.mk (wpList_loadB rfl _ _ rfl w1.heap.size rfl _ B10.out strC (by rw [Card.arr_size, HFL.out]) ?_)
    go_wp2_with (with_reducible refine stop_store 40 (.tmp 2) (.tmp 23) rfl rfl ?_)
    refine Stop.mk (wpList_storeB rfl _ _ _ rfl w.heap.size _ rfl rfl _ R10.out strC (by rw [Card.arr_size, HFL.out]) (by rw [Card.arr_size, HFL.out]; rfl) (Card.arr_ones _) ?_)
    intro w11 hb11 hk11
    have hE : S.e = 0 := by simpa using he
    have hv : rdCard st = cdCard st := rdCard_ok (by rw [← HS.out]; exact hE)
    have B11 := Lib.hid hb11
    clear hb11
    go_wp2_with (fail)
    exact bodyPost_ret (results_B rfl rfl B11.out strC (by rw [Card.arr_size, HFL.out])) rfl ⟨by rw [hv, HL.out]; rfl, hr10.own (b := w.heap.size) hk11 hpl, kw10.trans (hk11.one (by omega) (.inl (Nat.le_refl _)))⟩
  · go_wp2_with (with_reducible refine stop_store 40 (.tmp 2) (.tmp 22) rfl rfl ?_)
    refine Stop.mk (wpList_storeB rfl _ _ _ rfl w.heap.size _ rfl rfl _ R10.out strC rfl rfl (by simp [Value.oneCell']) ?_)
    intro w11 hb11 hk11
    have hE : S.e ≠ 0 := by simpa using he
    have hv : rdCard st = cz := rdCard_bad (by rw [← HS.out]; exact hE)
    have B11 := Lib.hid (show Blk w11 w.heap.size cz.arr by unfold Card.arr; exact hb11)
    clear hb11
    go_wp2_with (fail)
    exact bodyPost_ret (results_B rfl rfl B11.out strC (by unfold Card.arr; rfl)) rfl ⟨by rw [hv], hr10.own (b := w.heap.size) hk11 hpl, kw10.trans (hk11.one (by omega) (.inl (Nat.le_refl _)))⟩
end Go.Proofs.YtjkjfnhplgcigaaDoor
