/-
  The walk of the reference's Value: a value taken off bytes.
-/
import Derived.Test.YtiedkcijjfmhaaaGreatDoorSr8
namespace Go.Proofs.YtiedkcijjfmhaaaGreatDoor
open Go.RowKit

set_option maxHeartbeats 2000000 in
set_option maxRecDepth 4000 in
theorem c_ref08_Value (h : Nat) (st : Rd) (w : World) (r : RdR w h st) : Calls Tryz.prog 84 #[.pointer (some ⟨h, 0, none⟩)] w (RetR h (rdVal' st) w (rdVal st).val) := by
  unfold Val.val
  have hlt := r.lt
  have hpl : ∀ g, some h = some g → g < w.heap.size := fun g e => by injection e with e; omega
  have hne0 : h ≠ w.heap.size := by omega
  rcases rdN2_cases st with h0 | h0 | h0
  · have h1 := rdVal'_0 h0
    by_cases he : (rdN' st 2).e = 0
    · have hb : ((rdN' st 2).e != 0) = false := by simpa using he
      have hv := rdVal_0 (by rw [h1]; exact he) h0
      rw [h1, hv]
      have H0 := Lib.hid h0
      clear he hv h1 h0
      go_enter Tryz.func84, Tryz.ntmps84
      go_wp2_with (fail)
      refine (c_ref01_RNum h st 2 _ (r.below ((Below.refl _ _).alloc (Nat.le_refl _) _))).mono ?_
      rintro e w1 ⟨rfl, hr1, hk1⟩
      rw [H0.out]
      have hz1 := hk1.size
      simp only [World.size_alloc] at hz1
      have hne1 : h ≠ w1.heap.size := by omega
      have hh1 : h < w1.heap.size := by omega
      have B0 := Lib.hid ((Blk.new w 36 #[.int .i64 0, .int .i64 0, .string (str [])]).kept hk1 (by simp) (ne_of_lt hpl (Nat.le_refl _)))
      obtain ⟨a0, a1, a2, af⟩ := (B0.out.below ((Below.refl _ _).alloc (Nat.le_refl _) (.cells #[.int .i64 0, .int .i64 0, .string (str [])] 36)) B0.out.lt).three
      have c1 : w1.cell? ⟨h, 1, none⟩ = some (.int .i64 (rdN' st 2).e) := hr1.1.cell rfl
      go_wp2_with (fail)
      refine bodyPost_ret (v := .agg #[.int .i64 0, .int .i64 0, .string (str [])]) (by simp [results, Tryz.results84, go_sem, a0, a1, a2]) rfl ⟨rfl, hr1.up (B := w.heap.size) (by repeat (first | exact Below.refl _ _ | refine Below.drew ?_ | refine Below.alloc ?_ (by first | omega | (simp; done) | (simp; omega)) _ | refine Below.setCell ?_ (by first | omega | (simp; done) | (simp; omega)) _ | refine Below.trans ?_ (Below.mono (by assumption) (by first | omega | (simp; done) | (simp; omega))))) hlt, (by repeat (first | exact Kept.refl _ _ _ | refine Kept.drew ?_ | refine Kept.alloc ?_ (by first | omega | (simp; done) | (simp; omega)) _ | refine Kept.setCell ?_ (by first | (right; rfl) | (left; first | omega | (simp; done) | (simp; omega))) _ | refine Kept.then_kept ?_ (by assumption) (by first | omega | (simp; done) | (simp; omega)) | refine Kept.then_below ?_ (by assumption) (by first | omega | (simp; done) | (simp; omega)) | refine Kept.low ?_ (by assumption)))⟩
    · have hb : ((rdN' st 2).e != 0) = true := by simpa using he
      have hv := rdVal_bad (by rw [h1]; exact he)
      rw [h1, hv]
      have H0 := Lib.hid h0
      clear he hv h1 h0
      go_enter Tryz.func84, Tryz.ntmps84
      go_wp2_with (fail)
      refine (c_ref01_RNum h st 2 _ (r.below ((Below.refl _ _).alloc (Nat.le_refl _) _))).mono ?_
      rintro e w1 ⟨rfl, hr1, hk1⟩
      rw [H0.out]
      have hz1 := hk1.size
      simp only [World.size_alloc] at hz1
      have hne1 : h ≠ w1.heap.size := by omega
      have hh1 : h < w1.heap.size := by omega
      have B0 := Lib.hid ((Blk.new w 36 #[.int .i64 0, .int .i64 0, .string (str [])]).kept hk1 (by simp) (ne_of_lt hpl (Nat.le_refl _)))
      obtain ⟨a0, a1, a2, af⟩ := (B0.out.below ((Below.refl _ _).alloc (Nat.le_refl _) (.cells #[.int .i64 0, .int .i64 0, .string (str [])] 36)) B0.out.lt).three
      have c1 : w1.cell? ⟨h, 1, none⟩ = some (.int .i64 (rdN' st 2).e) := hr1.1.cell rfl
      go_wp2_with (fail)
      refine bodyPost_ret (v := .agg #[.int .i64 0, .int .i64 0, .string (str [])]) (by simp [results, Tryz.results84, go_sem, a0, a1, a2]) rfl ⟨rfl, hr1.up (B := w.heap.size) (by repeat (first | exact Below.refl _ _ | refine Below.drew ?_ | refine Below.alloc ?_ (by first | omega | (simp; done) | (simp; omega)) _ | refine Below.setCell ?_ (by first | omega | (simp; done) | (simp; omega)) _ | refine Below.trans ?_ (Below.mono (by assumption) (by first | omega | (simp; done) | (simp; omega))))) hlt, (by repeat (first | exact Kept.refl _ _ _ | refine Kept.drew ?_ | refine Kept.alloc ?_ (by first | omega | (simp; done) | (simp; omega)) _ | refine Kept.setCell ?_ (by first | (right; rfl) | (left; first | omega | (simp; done) | (simp; omega))) _ | refine Kept.then_kept ?_ (by assumption) (by first | omega | (simp; done) | (simp; omega)) | refine Kept.then_below ?_ (by assumption) (by first | omega | (simp; done) | (simp; omega)) | refine Kept.low ?_ (by assumption)))⟩
  · have h1 := rdVal'_1 h0
    by_cases he : (rdN' (rdN' st 2) 1099511627776).e = 0
    · have hb : ((rdN' (rdN' st 2) 1099511627776).e != 0) = false := by simpa using he
      have hv := rdVal_1 (by rw [h1]; exact he) h0
      rw [h1, hv]
      have H0 := Lib.hid h0
      clear he hv h1 h0
      go_enter Tryz.func84, Tryz.ntmps84
      go_wp2_with (fail)
      refine (c_ref01_RNum h st 2 _ (r.below ((Below.refl _ _).alloc (Nat.le_refl _) _))).mono ?_
      rintro e w1 ⟨rfl, hr1, hk1⟩
      rw [H0.out]
      have hz1 := hk1.size
      simp only [World.size_alloc] at hz1
      have hne1 : h ≠ w1.heap.size := by omega
      have hh1 : h < w1.heap.size := by omega
      have B0 := Lib.hid ((Blk.new w 36 #[.int .i64 0, .int .i64 0, .string (str [])]).kept hk1 (by simp) (ne_of_lt hpl (Nat.le_refl _)))
      go_wp2_with (fail)
      refine (c_ref01_RNum h (rdN' st 2) 1099511627776 _ (hr1.below ((Below.refl _ _).alloc (Nat.le_refl _) _))).mono ?_
      rintro e w2 ⟨rfl, hr2, hk2⟩
      have hz2 := hk2.size
      simp only [World.size_alloc] at hz2
      obtain ⟨a0, a1, a2, af⟩ := ((B0.out.below ((Below.refl _ _).alloc (Nat.le_refl _) _) B0.out.lt).kept hk2 (by simp; omega) (ne_of_lt hpl (Nat.le_refl _))).three
      obtain ⟨b0, b1, b2, bf⟩ := (((Blk.new w1 36 #[.int .i64 1, .int .i64 0, .string (str [])]).kept hk2 (by simp) (ne_of_lt hpl (by omega)))).three
      have c1 : w2.cell? ⟨h, 1, none⟩ = some (.int .i64 (rdN' (rdN' st 2) 1099511627776).e) := hr2.1.cell rfl
      have hne3 : w.heap.size ≠ w1.heap.size := by omega
      go_wp2_with (fail)
      refine bodyPost_ret (v := .agg #[.int .i64 1, .int .i64 (rdN (rdN' st 2) 1099511627776), .string (str [])]) (by simp [results, Tryz.results84, go_sem, a0, a1, a2]) rfl ⟨rfl, hr2.up (B := w.heap.size) (by repeat (first | exact Below.refl _ _ | refine Below.drew ?_ | refine Below.alloc ?_ (by first | omega | (simp; done) | (simp; omega)) _ | refine Below.setCell ?_ (by first | omega | (simp; done) | (simp; omega)) _ | refine Below.trans ?_ (Below.mono (by assumption) (by first | omega | (simp; done) | (simp; omega))))) hlt, (by repeat (first | exact Kept.refl _ _ _ | refine Kept.drew ?_ | refine Kept.alloc ?_ (by first | omega | (simp; done) | (simp; omega)) _ | refine Kept.setCell ?_ (by first | (right; rfl) | (left; first | omega | (simp; done) | (simp; omega))) _ | refine Kept.then_kept ?_ (by assumption) (by first | omega | (simp; done) | (simp; omega)) | refine Kept.then_below ?_ (by assumption) (by first | omega | (simp; done) | (simp; omega)) | refine Kept.low ?_ (by assumption)))⟩
    · have hb : ((rdN' (rdN' st 2) 1099511627776).e != 0) = true := by simpa using he
      have hv := rdVal_bad (by rw [h1]; exact he)
      rw [h1, hv]
      have H0 := Lib.hid h0
      clear he hv h1 h0
      go_enter Tryz.func84, Tryz.ntmps84
      go_wp2_with (fail)
      refine (c_ref01_RNum h st 2 _ (r.below ((Below.refl _ _).alloc (Nat.le_refl _) _))).mono ?_
      rintro e w1 ⟨rfl, hr1, hk1⟩
      rw [H0.out]
      have hz1 := hk1.size
      simp only [World.size_alloc] at hz1
      have hne1 : h ≠ w1.heap.size := by omega
      have hh1 : h < w1.heap.size := by omega
      have B0 := Lib.hid ((Blk.new w 36 #[.int .i64 0, .int .i64 0, .string (str [])]).kept hk1 (by simp) (ne_of_lt hpl (Nat.le_refl _)))
      go_wp2_with (fail)
      refine (c_ref01_RNum h (rdN' st 2) 1099511627776 _ (hr1.below ((Below.refl _ _).alloc (Nat.le_refl _) _))).mono ?_
      rintro e w2 ⟨rfl, hr2, hk2⟩
      have hz2 := hk2.size
      simp only [World.size_alloc] at hz2
      obtain ⟨a0, a1, a2, af⟩ := ((B0.out.below ((Below.refl _ _).alloc (Nat.le_refl _) _) B0.out.lt).kept hk2 (by simp; omega) (ne_of_lt hpl (Nat.le_refl _))).three
      obtain ⟨b0, b1, b2, bf⟩ := (((Blk.new w1 36 #[.int .i64 1, .int .i64 0, .string (str [])]).kept hk2 (by simp) (ne_of_lt hpl (by omega)))).three
      have c1 : w2.cell? ⟨h, 1, none⟩ = some (.int .i64 (rdN' (rdN' st 2) 1099511627776).e) := hr2.1.cell rfl
      have hne3 : w.heap.size ≠ w1.heap.size := by omega
      go_wp2_with (fail)
      refine bodyPost_ret (v := .agg #[.int .i64 0, .int .i64 0, .string (str [])]) (by simp [results, Tryz.results84, go_sem, a0, a1, a2]) rfl ⟨rfl, hr2.up (B := w.heap.size) (by repeat (first | exact Below.refl _ _ | refine Below.drew ?_ | refine Below.alloc ?_ (by first | omega | (simp; done) | (simp; omega)) _ | refine Below.setCell ?_ (by first | omega | (simp; done) | (simp; omega)) _ | refine Below.trans ?_ (Below.mono (by assumption) (by first | omega | (simp; done) | (simp; omega))))) hlt, (by repeat (first | exact Kept.refl _ _ _ | refine Kept.drew ?_ | refine Kept.alloc ?_ (by first | omega | (simp; done) | (simp; omega)) _ | refine Kept.setCell ?_ (by first | (right; rfl) | (left; first | omega | (simp; done) | (simp; omega))) _ | refine Kept.then_kept ?_ (by assumption) (by first | omega | (simp; done) | (simp; omega)) | refine Kept.then_below ?_ (by assumption) (by first | omega | (simp; done) | (simp; omega)) | refine Kept.low ?_ (by assumption)))⟩
  · have h1 := rdVal'_2 h0
    by_cases he : (rdS' (rdN' st 2) 24).e = 0
    · have hb : ((rdS' (rdN' st 2) 24).e != 0) = false := by simpa using he
      have hv := rdVal_2 (by rw [h1]; exact he) h0
      rw [h1, hv]
      have H0 := Lib.hid h0
      clear he hv h1 h0
      go_enter Tryz.func84, Tryz.ntmps84
      go_wp2_with (fail)
      refine (c_ref01_RNum h st 2 _ (r.below ((Below.refl _ _).alloc (Nat.le_refl _) _))).mono ?_
      rintro e w1 ⟨rfl, hr1, hk1⟩
      rw [H0.out]
      have hz1 := hk1.size
      simp only [World.size_alloc] at hz1
      have hne1 : h ≠ w1.heap.size := by omega
      have hh1 : h < w1.heap.size := by omega
      have B0 := Lib.hid ((Blk.new w 36 #[.int .i64 0, .int .i64 0, .string (str [])]).kept hk1 (by simp) (ne_of_lt hpl (Nat.le_refl _)))
      go_wp2_with (fail)
      refine (c_ref01_RStr h (rdN' st 2) 24 _ (hr1.below ((Below.refl _ _).alloc (Nat.le_refl _) _))).mono ?_
      rintro e w2 ⟨rfl, hr2, hk2⟩
      have hz2 := hk2.size
      simp only [World.size_alloc] at hz2
      obtain ⟨a0, a1, a2, af⟩ := ((B0.out.below ((Below.refl _ _).alloc (Nat.le_refl _) _) B0.out.lt).kept hk2 (by simp; omega) (ne_of_lt hpl (Nat.le_refl _))).three
      obtain ⟨b0, b1, b2, bf⟩ := (((Blk.new w1 36 #[.int .i64 2, .int .i64 0, .string (str [])]).kept hk2 (by simp) (ne_of_lt hpl (by omega)))).three
      have c1 : w2.cell? ⟨h, 1, none⟩ = some (.int .i64 (rdS' (rdN' st 2) 24).e) := hr2.1.cell rfl
      have hne3 : w.heap.size ≠ w1.heap.size := by omega
      go_wp2_with (fail)
      refine bodyPost_ret (v := .agg #[.int .i64 2, .int .i64 0, .string (str (rdS (rdN' st 2) 24))]) (by simp [results, Tryz.results84, go_sem, a0, a1, a2]) rfl ⟨rfl, hr2.up (B := w.heap.size) (by repeat (first | exact Below.refl _ _ | refine Below.drew ?_ | refine Below.alloc ?_ (by first | omega | (simp; done) | (simp; omega)) _ | refine Below.setCell ?_ (by first | omega | (simp; done) | (simp; omega)) _ | refine Below.trans ?_ (Below.mono (by assumption) (by first | omega | (simp; done) | (simp; omega))))) hlt, (by repeat (first | exact Kept.refl _ _ _ | refine Kept.drew ?_ | refine Kept.alloc ?_ (by first | omega | (simp; done) | (simp; omega)) _ | refine Kept.setCell ?_ (by first | (right; rfl) | (left; first | omega | (simp; done) | (simp; omega))) _ | refine Kept.then_kept ?_ (by assumption) (by first | omega | (simp; done) | (simp; omega)) | refine Kept.then_below ?_ (by assumption) (by first | omega | (simp; done) | (simp; omega)) | refine Kept.low ?_ (by assumption)))⟩
    · have hb : ((rdS' (rdN' st 2) 24).e != 0) = true := by simpa using he
      have hv := rdVal_bad (by rw [h1]; exact he)
      rw [h1, hv]
      have H0 := Lib.hid h0
      clear he hv h1 h0
      go_enter Tryz.func84, Tryz.ntmps84
      go_wp2_with (fail)
      refine (c_ref01_RNum h st 2 _ (r.below ((Below.refl _ _).alloc (Nat.le_refl _) _))).mono ?_
      rintro e w1 ⟨rfl, hr1, hk1⟩
      rw [H0.out]
      have hz1 := hk1.size
      simp only [World.size_alloc] at hz1
      have hne1 : h ≠ w1.heap.size := by omega
      have hh1 : h < w1.heap.size := by omega
      have B0 := Lib.hid ((Blk.new w 36 #[.int .i64 0, .int .i64 0, .string (str [])]).kept hk1 (by simp) (ne_of_lt hpl (Nat.le_refl _)))
      go_wp2_with (fail)
      refine (c_ref01_RStr h (rdN' st 2) 24 _ (hr1.below ((Below.refl _ _).alloc (Nat.le_refl _) _))).mono ?_
      rintro e w2 ⟨rfl, hr2, hk2⟩
      have hz2 := hk2.size
      simp only [World.size_alloc] at hz2
      obtain ⟨a0, a1, a2, af⟩ := ((B0.out.below ((Below.refl _ _).alloc (Nat.le_refl _) _) B0.out.lt).kept hk2 (by simp; omega) (ne_of_lt hpl (Nat.le_refl _))).three
      obtain ⟨b0, b1, b2, bf⟩ := (((Blk.new w1 36 #[.int .i64 2, .int .i64 0, .string (str [])]).kept hk2 (by simp) (ne_of_lt hpl (by omega)))).three
      have c1 : w2.cell? ⟨h, 1, none⟩ = some (.int .i64 (rdS' (rdN' st 2) 24).e) := hr2.1.cell rfl
      have hne3 : w.heap.size ≠ w1.heap.size := by omega
      go_wp2_with (fail)
      refine bodyPost_ret (v := .agg #[.int .i64 0, .int .i64 0, .string (str [])]) (by simp [results, Tryz.results84, go_sem, a0, a1, a2]) rfl ⟨rfl, hr2.up (B := w.heap.size) (by repeat (first | exact Below.refl _ _ | refine Below.drew ?_ | refine Below.alloc ?_ (by first | omega | (simp; done) | (simp; omega)) _ | refine Below.setCell ?_ (by first | omega | (simp; done) | (simp; omega)) _ | refine Below.trans ?_ (Below.mono (by assumption) (by first | omega | (simp; done) | (simp; omega))))) hlt, (by repeat (first | exact Kept.refl _ _ _ | refine Kept.drew ?_ | refine Kept.alloc ?_ (by first | omega | (simp; done) | (simp; omega)) _ | refine Kept.setCell ?_ (by first | (right; rfl) | (left; first | omega | (simp; done) | (simp; omega))) _ | refine Kept.then_kept ?_ (by assumption) (by first | omega | (simp; done) | (simp; omega)) | refine Kept.then_below ?_ (by assumption) (by first | omega | (simp; done) | (simp; omega)) | refine Kept.low ?_ (by assumption)))⟩
end Go.Proofs.YtiedkcijjfmhaaaGreatDoor
