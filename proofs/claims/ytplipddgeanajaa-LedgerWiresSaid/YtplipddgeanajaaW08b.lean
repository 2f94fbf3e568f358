/-
  The walks of chapter 8's Value, the program's and the reference's: a value taken off bytes.
-/
import Derived.Test.YtplipddgeanajaaW01c
import Derived.Test.YtplipddgeanajaaW01e
import Derived.Test.YtplipddgeanajaaRv
namespace Go.Proofs.Ytplipddgeanajaa
open Go.RowKit

theorem Blk.three {w : World} {g : Nat} {a b c : Value} (h : Blk w g #[a, b, c]) : w.cell? ⟨g, 0, none⟩ = some a ∧ w.cell? ⟨g, 1, none⟩ = some b ∧ w.cell? ⟨g, 2, none⟩ = some c ∧ ∀ i, w.frozen? ⟨g, i, none⟩ = false :=
  ⟨h.cell rfl, h.cell rfl, h.cell rfl, fun i => h.frozen i⟩
theorem RdP.own {w w' : World} {p : Option Nat} {st : Rd} {b : Nat} (r : RdP w p st) (k : Kept (some b) w.heap.size w w') (hb : ∀ g, p = some g → g < b) : RdP w' p st :=
  r.kept k (fun g h hg hh => by injection hh with hh; subst hh; exact hb g hg)
theorem RdP.up {w w' : World} {p : Option Nat} {st : Rd} {B : Nat} (r : RdP w p st) (k : Below B w w') (hb : ∀ g, p = some g → g < B) : RdP w' p st := by
  rcases r with ⟨rfl, hs⟩ | ⟨g, A, c, L, pos, rfl, ⟨h1, h2, h3, h4, h5, h6⟩, hs⟩
  · exact .inl ⟨rfl, hs⟩
  · have hg := hb g rfl
    exact .inr ⟨g, A, c, L, pos, rfl, ⟨h1.below k hg, h2, h3, h4, h5, h6.imp id fun ⟨b, off, hA, hbg, hr⟩ => ⟨b, off, hA, hbg, hr.belowB k (by omega)⟩⟩, hs⟩
theorem RdR.up {w w' : World} {h : Nat} {st : Rd} {B : Nat} (r : RdR w h st) (k : Below B w w') (hb : h < B) : RdR w' h st := ⟨r.1.below k hb, r.2⟩
theorem ne_of_lt {p : Option Nat} {n b : Nat} (h : ∀ g, p = some g → g < n) (hb : n ≤ b) : p ≠ some b := fun e => by have := h b e; omega
set_option maxHeartbeats 2000000 in
set_option maxRecDepth 4000 in
theorem c_cardwire_Value (p : Option Nat) (st : Rd) (w : World) (h : RdP w p st) : Calls Try.prog 84 #[ptr p] w (RetP p (rdVal' st) w (rdVal st).val) := by
  unfold Val.val
  have hpl := fun g (hg : p = some g) => h.lt hg
  rcases rdN2_cases st with h0 | h0 | h0
  · have h1 := rdVal'_0 h0
    by_cases he : (rdN' st 2).e = 0
    · have hb : ((rdN' st 2).e != 0) = false := by simpa using he
      have hv := rdVal_0 (by rw [h1]; exact he) h0
      rw [h1, hv]
      have H0 := Lib.hid h0
      clear he hv h1 h0
      go_enter Try.func84, Try.ntmps84
      go_wp2_with (fail)
      refine (c_octet_RNum p st 2 _ (h.below ((Below.refl _ _).alloc (Nat.le_refl _) _))).mono ?_
      rintro e w1 ⟨rfl, hr1, hk1⟩
      rw [H0.out]
      have hz1 := hk1.size
      simp only [World.size_alloc] at hz1
      have B0 := Lib.hid ((Blk.new w 56 #[.int .i64 0, .int .i64 0, .string (str [])]).kept hk1 (by simp) (ne_of_lt hpl (Nat.le_refl _)))
      go_wp2_with (fail)
      refine (c_octet_Err p (rdN' st 2) _ (hr1.below ((Below.refl _ _).alloc (Nat.le_refl _) _))).mono ?_
      rintro e w2 ⟨rfl, hr2, hk2⟩
      have hz2 := hk2.size
      simp only [World.size_alloc] at hz2
      obtain ⟨a0, a1, a2, af⟩ := ((B0.out.below ((Below.refl _ _).alloc (Nat.le_refl _) _) B0.out.lt).kept hk2 (by simp; omega) (ne_of_lt hpl (Nat.le_refl _))).three
      obtain ⟨b0, b1, b2, bf⟩ := ((Blk.new w1 56 #[.int .i64 0, .int .i64 0, .string (str [])]).kept hk2 (by simp) (ne_of_lt hpl (by omega))).three
      go_wp2_with (fail)
      refine bodyPost_ret (v := .agg #[.int .i64 0, .int .i64 0, .string (str [])]) (by simp [results, Try.results84, go_sem, a0, a1, a2]) rfl ⟨rfl, hr2.own (b := w.heap.size) (by repeat (first | exact Kept.refl _ _ _ | refine Kept.drew ?_ | refine Kept.alloc ?_ (by first | omega | (simp; done) | (simp; omega)) _ | refine Kept.setCell ?_ (by first | (right; rfl) | (left; first | omega | (simp; done) | (simp; omega))) _ | refine Kept.then_kept ?_ (by assumption) (by first | omega | (simp; done) | (simp; omega)) | refine Kept.then_below ?_ (by assumption) (by first | omega | (simp; done) | (simp; omega)) | refine Kept.low ?_ (by assumption))) hpl, (by repeat (first | exact Kept.refl _ _ _ | refine Kept.drew ?_ | refine Kept.alloc ?_ (by first | omega | (simp; done) | (simp; omega)) _ | refine Kept.setCell ?_ (by first | (right; rfl) | (left; first | omega | (simp; done) | (simp; omega))) _ | refine Kept.then_kept ?_ (by assumption) (by first | omega | (simp; done) | (simp; omega)) | refine Kept.then_below ?_ (by assumption) (by first | omega | (simp; done) | (simp; omega)) | refine Kept.low ?_ (by assumption)))⟩
    · have hb : ((rdN' st 2).e != 0) = true := by simpa using he
      have hv := rdVal_bad (by rw [h1]; exact he)
      rw [h1, hv]
      have H0 := Lib.hid h0
      clear he hv h1 h0
      go_enter Try.func84, Try.ntmps84
      go_wp2_with (fail)
      refine (c_octet_RNum p st 2 _ (h.below ((Below.refl _ _).alloc (Nat.le_refl _) _))).mono ?_
      rintro e w1 ⟨rfl, hr1, hk1⟩
      rw [H0.out]
      have hz1 := hk1.size
      simp only [World.size_alloc] at hz1
      have B0 := Lib.hid ((Blk.new w 56 #[.int .i64 0, .int .i64 0, .string (str [])]).kept hk1 (by simp) (ne_of_lt hpl (Nat.le_refl _)))
      go_wp2_with (fail)
      refine (c_octet_Err p (rdN' st 2) _ (hr1.below ((Below.refl _ _).alloc (Nat.le_refl _) _))).mono ?_
      rintro e w2 ⟨rfl, hr2, hk2⟩
      have hz2 := hk2.size
      simp only [World.size_alloc] at hz2
      obtain ⟨a0, a1, a2, af⟩ := ((B0.out.below ((Below.refl _ _).alloc (Nat.le_refl _) _) B0.out.lt).kept hk2 (by simp; omega) (ne_of_lt hpl (Nat.le_refl _))).three
      obtain ⟨b0, b1, b2, bf⟩ := ((Blk.new w1 56 #[.int .i64 0, .int .i64 0, .string (str [])]).kept hk2 (by simp) (ne_of_lt hpl (by omega))).three
      go_wp2_with (fail)
      refine bodyPost_ret (v := .agg #[.int .i64 0, .int .i64 0, .string (str [])]) (by simp [results, Try.results84, go_sem, a0, a1, a2]) rfl ⟨rfl, hr2.own (b := w.heap.size) (by repeat (first | exact Kept.refl _ _ _ | refine Kept.drew ?_ | refine Kept.alloc ?_ (by first | omega | (simp; done) | (simp; omega)) _ | refine Kept.setCell ?_ (by first | (right; rfl) | (left; first | omega | (simp; done) | (simp; omega))) _ | refine Kept.then_kept ?_ (by assumption) (by first | omega | (simp; done) | (simp; omega)) | refine Kept.then_below ?_ (by assumption) (by first | omega | (simp; done) | (simp; omega)) | refine Kept.low ?_ (by assumption))) hpl, (by repeat (first | exact Kept.refl _ _ _ | refine Kept.drew ?_ | refine Kept.alloc ?_ (by first | omega | (simp; done) | (simp; omega)) _ | refine Kept.setCell ?_ (by first | (right; rfl) | (left; first | omega | (simp; done) | (simp; omega))) _ | refine Kept.then_kept ?_ (by assumption) (by first | omega | (simp; done) | (simp; omega)) | refine Kept.then_below ?_ (by assumption) (by first | omega | (simp; done) | (simp; omega)) | refine Kept.low ?_ (by assumption)))⟩
  · have h1 := rdVal'_1 h0
    by_cases he : (rdN' (rdN' st 2) 1099511627776).e = 0
    · have hb : ((rdN' (rdN' st 2) 1099511627776).e != 0) = false := by simpa using he
      have hv := rdVal_1 (by rw [h1]; exact he) h0
      rw [h1, hv]
      have H0 := Lib.hid h0
      clear he hv h1 h0
      go_enter Try.func84, Try.ntmps84
      go_wp2_with (fail)
      refine (c_octet_RNum p st 2 _ (h.below ((Below.refl _ _).alloc (Nat.le_refl _) _))).mono ?_
      rintro e w1 ⟨rfl, hr1, hk1⟩
      rw [H0.out]
      have hz1 := hk1.size
      simp only [World.size_alloc] at hz1
      have B0 := Lib.hid ((Blk.new w 56 #[.int .i64 0, .int .i64 0, .string (str [])]).kept hk1 (by simp) (ne_of_lt hpl (Nat.le_refl _)))
      go_wp2_with (fail)
      refine (c_octet_RNum p (rdN' st 2) 1099511627776 _ (hr1.below ((Below.refl _ _).alloc (Nat.le_refl _) _))).mono ?_
      rintro e w2 ⟨rfl, hr2, hk2⟩
      have hz2 := hk2.size
      simp only [World.size_alloc] at hz2
      have B1 := Lib.hid ((B0.out.below ((Below.refl _ _).alloc (Nat.le_refl _) _) B0.out.lt).kept hk2 (by simp; omega) (ne_of_lt hpl (Nat.le_refl _)))
      have C1 := Lib.hid ((Blk.new w1 56 #[.int .i64 1, .int .i64 0, .string (str [])]).kept hk2 (by simp) (ne_of_lt hpl (by omega)))
      obtain ⟨b0, b1, b2, bf⟩ := C1.out.three
      go_wp2_with (fail)
      refine (c_octet_Err p (rdN' (rdN' st 2) 1099511627776) _ (hr2.own (b := w1.heap.size) (by repeat (first | exact Kept.refl _ _ _ | refine Kept.drew ?_ | refine Kept.alloc ?_ (by first | omega | (simp; done) | (simp; omega)) _ | refine Kept.setCell ?_ (by first | (right; rfl) | (left; first | omega | (simp; done) | (simp; omega))) _ | refine Kept.then_kept ?_ (by assumption) (by first | omega | (simp; done) | (simp; omega)) | refine Kept.then_below ?_ (by assumption) (by first | omega | (simp; done) | (simp; omega)) | refine Kept.low ?_ (by assumption))) (fun g hg => by have := hpl g hg; omega))).mono ?_
      rintro e w3 ⟨rfl, hr3, hk3⟩
      have hz3 := hk3.size
      have hz3' : w2.heap.size ≤ w3.heap.size := by simpa [World.setCell] using hz3
      clear b0 b1 b2 bf hz3
      obtain ⟨a0, a1, a2, af⟩ := ((B1.out.far (q := ⟨w1.heap.size, 1, none⟩) (by simp; omega) _).kept hk3 (by simp [World.setCell]; omega) (ne_of_lt hpl (Nat.le_refl _))).three
      obtain ⟨b0, b1, b2, bf⟩ := (((C1.out.store 1 (.int .i64 (rdN (rdN' st 2) 1099511627776))).kept hk3 (by simp [World.setCell]; omega) (ne_of_lt hpl (by omega)) : Blk w3 w1.heap.size #[.int .i64 1, .int .i64 (rdN (rdN' st 2) 1099511627776), .string (str [])])).three
      go_wp2_with (fail)
      refine bodyPost_ret (v := .agg #[.int .i64 1, .int .i64 (rdN (rdN' st 2) 1099511627776), .string (str [])]) (by simp [results, Try.results84, go_sem, a0, a1, a2]) rfl ⟨rfl, hr3.own (b := w.heap.size) (by repeat (first | exact Kept.refl _ _ _ | refine Kept.drew ?_ | refine Kept.alloc ?_ (by first | omega | (simp; done) | (simp; omega)) _ | refine Kept.setCell ?_ (by first | (right; rfl) | (left; first | omega | (simp; done) | (simp; omega))) _ | refine Kept.then_kept ?_ (by assumption) (by first | omega | (simp; done) | (simp; omega)) | refine Kept.then_below ?_ (by assumption) (by first | omega | (simp; done) | (simp; omega)) | refine Kept.low ?_ (by assumption))) hpl, (by repeat (first | exact Kept.refl _ _ _ | refine Kept.drew ?_ | refine Kept.alloc ?_ (by first | omega | (simp; done) | (simp; omega)) _ | refine Kept.setCell ?_ (by first | (right; rfl) | (left; first | omega | (simp; done) | (simp; omega))) _ | refine Kept.then_kept ?_ (by assumption) (by first | omega | (simp; done) | (simp; omega)) | refine Kept.then_below ?_ (by assumption) (by first | omega | (simp; done) | (simp; omega)) | refine Kept.low ?_ (by assumption)))⟩
    · have hb : ((rdN' (rdN' st 2) 1099511627776).e != 0) = true := by simpa using he
      have hv := rdVal_bad (by rw [h1]; exact he)
      rw [h1, hv]
      have H0 := Lib.hid h0
      clear he hv h1 h0
      go_enter Try.func84, Try.ntmps84
      go_wp2_with (fail)
      refine (c_octet_RNum p st 2 _ (h.below ((Below.refl _ _).alloc (Nat.le_refl _) _))).mono ?_
      rintro e w1 ⟨rfl, hr1, hk1⟩
      rw [H0.out]
      have hz1 := hk1.size
      simp only [World.size_alloc] at hz1
      have B0 := Lib.hid ((Blk.new w 56 #[.int .i64 0, .int .i64 0, .string (str [])]).kept hk1 (by simp) (ne_of_lt hpl (Nat.le_refl _)))
      go_wp2_with (fail)
      refine (c_octet_RNum p (rdN' st 2) 1099511627776 _ (hr1.below ((Below.refl _ _).alloc (Nat.le_refl _) _))).mono ?_
      rintro e w2 ⟨rfl, hr2, hk2⟩
      have hz2 := hk2.size
      simp only [World.size_alloc] at hz2
      have B1 := Lib.hid ((B0.out.below ((Below.refl _ _).alloc (Nat.le_refl _) _) B0.out.lt).kept hk2 (by simp; omega) (ne_of_lt hpl (Nat.le_refl _)))
      have C1 := Lib.hid ((Blk.new w1 56 #[.int .i64 1, .int .i64 0, .string (str [])]).kept hk2 (by simp) (ne_of_lt hpl (by omega)))
      obtain ⟨b0, b1, b2, bf⟩ := C1.out.three
      go_wp2_with (fail)
      refine (c_octet_Err p (rdN' (rdN' st 2) 1099511627776) _ (hr2.own (b := w1.heap.size) (by repeat (first | exact Kept.refl _ _ _ | refine Kept.drew ?_ | refine Kept.alloc ?_ (by first | omega | (simp; done) | (simp; omega)) _ | refine Kept.setCell ?_ (by first | (right; rfl) | (left; first | omega | (simp; done) | (simp; omega))) _ | refine Kept.then_kept ?_ (by assumption) (by first | omega | (simp; done) | (simp; omega)) | refine Kept.then_below ?_ (by assumption) (by first | omega | (simp; done) | (simp; omega)) | refine Kept.low ?_ (by assumption))) (fun g hg => by have := hpl g hg; omega))).mono ?_
      rintro e w3 ⟨rfl, hr3, hk3⟩
      have hz3 := hk3.size
      have hz3' : w2.heap.size ≤ w3.heap.size := by simpa [World.setCell] using hz3
      clear b0 b1 b2 bf hz3
      obtain ⟨a0, a1, a2, af⟩ := ((B1.out.far (q := ⟨w1.heap.size, 1, none⟩) (by simp; omega) _).kept hk3 (by simp [World.setCell]; omega) (ne_of_lt hpl (Nat.le_refl _))).three
      obtain ⟨b0, b1, b2, bf⟩ := (((C1.out.store 1 (.int .i64 (rdN (rdN' st 2) 1099511627776))).kept hk3 (by simp [World.setCell]; omega) (ne_of_lt hpl (by omega)) : Blk w3 w1.heap.size #[.int .i64 1, .int .i64 (rdN (rdN' st 2) 1099511627776), .string (str [])])).three
      go_wp2_with (fail)
      refine bodyPost_ret (v := .agg #[.int .i64 0, .int .i64 0, .string (str [])]) (by simp [results, Try.results84, go_sem, a0, a1, a2]) rfl ⟨rfl, hr3.own (b := w.heap.size) (by repeat (first | exact Kept.refl _ _ _ | refine Kept.drew ?_ | refine Kept.alloc ?_ (by first | omega | (simp; done) | (simp; omega)) _ | refine Kept.setCell ?_ (by first | (right; rfl) | (left; first | omega | (simp; done) | (simp; omega))) _ | refine Kept.then_kept ?_ (by assumption) (by first | omega | (simp; done) | (simp; omega)) | refine Kept.then_below ?_ (by assumption) (by first | omega | (simp; done) | (simp; omega)) | refine Kept.low ?_ (by assumption))) hpl, (by repeat (first | exact Kept.refl _ _ _ | refine Kept.drew ?_ | refine Kept.alloc ?_ (by first | omega | (simp; done) | (simp; omega)) _ | refine Kept.setCell ?_ (by first | (right; rfl) | (left; first | omega | (simp; done) | (simp; omega))) _ | refine Kept.then_kept ?_ (by assumption) (by first | omega | (simp; done) | (simp; omega)) | refine Kept.then_below ?_ (by assumption) (by first | omega | (simp; done) | (simp; omega)) | refine Kept.low ?_ (by assumption)))⟩
  · have h1 := rdVal'_2 h0
    by_cases he : (rdS' (rdN' st 2) 24).e = 0
    · have hb : ((rdS' (rdN' st 2) 24).e != 0) = false := by simpa using he
      have hv := rdVal_2 (by rw [h1]; exact he) h0
      rw [h1, hv]
      have H0 := Lib.hid h0
      clear he hv h1 h0
      go_enter Try.func84, Try.ntmps84
      go_wp2_with (fail)
      refine (c_octet_RNum p st 2 _ (h.below ((Below.refl _ _).alloc (Nat.le_refl _) _))).mono ?_
      rintro e w1 ⟨rfl, hr1, hk1⟩
      rw [H0.out]
      have hz1 := hk1.size
      simp only [World.size_alloc] at hz1
      have B0 := Lib.hid ((Blk.new w 56 #[.int .i64 0, .int .i64 0, .string (str [])]).kept hk1 (by simp) (ne_of_lt hpl (Nat.le_refl _)))
      go_wp2_with (fail)
      refine (c_octet_RStr p (rdN' st 2) 24 _ (hr1.below ((Below.refl _ _).alloc (Nat.le_refl _) _))).mono ?_
      rintro e w2 ⟨rfl, hr2, hk2⟩
      have hz2 := hk2.size
      simp only [World.size_alloc] at hz2
      have B1 := Lib.hid ((B0.out.below ((Below.refl _ _).alloc (Nat.le_refl _) _) B0.out.lt).kept hk2 (by simp; omega) (ne_of_lt hpl (Nat.le_refl _)))
      have C1 := Lib.hid ((Blk.new w1 56 #[.int .i64 2, .int .i64 0, .string (str [])]).kept hk2 (by simp) (ne_of_lt hpl (by omega)))
      obtain ⟨b0, b1, b2, bf⟩ := C1.out.three
      go_wp2_with (fail)
      refine (c_octet_Err p (rdS' (rdN' st 2) 24) _ (hr2.own (b := w1.heap.size) (by repeat (first | exact Kept.refl _ _ _ | refine Kept.drew ?_ | refine Kept.alloc ?_ (by first | omega | (simp; done) | (simp; omega)) _ | refine Kept.setCell ?_ (by first | (right; rfl) | (left; first | omega | (simp; done) | (simp; omega))) _ | refine Kept.then_kept ?_ (by assumption) (by first | omega | (simp; done) | (simp; omega)) | refine Kept.then_below ?_ (by assumption) (by first | omega | (simp; done) | (simp; omega)) | refine Kept.low ?_ (by assumption))) (fun g hg => by have := hpl g hg; omega))).mono ?_
      rintro e w3 ⟨rfl, hr3, hk3⟩
      have hz3 := hk3.size
      have hz3' : w2.heap.size ≤ w3.heap.size := by simpa [World.setCell] using hz3
      clear b0 b1 b2 bf hz3
      obtain ⟨a0, a1, a2, af⟩ := ((B1.out.far (q := ⟨w1.heap.size, 2, none⟩) (by simp; omega) _).kept hk3 (by simp [World.setCell]; omega) (ne_of_lt hpl (Nat.le_refl _))).three
      obtain ⟨b0, b1, b2, bf⟩ := (((C1.out.store 2 (.string (str (rdS (rdN' st 2) 24)))).kept hk3 (by simp [World.setCell]; omega) (ne_of_lt hpl (by omega)) : Blk w3 w1.heap.size #[.int .i64 2, .int .i64 0, .string (str (rdS (rdN' st 2) 24))])).three
      go_wp2_with (fail)
      refine bodyPost_ret (v := .agg #[.int .i64 2, .int .i64 0, .string (str (rdS (rdN' st 2) 24))]) (by simp [results, Try.results84, go_sem, a0, a1, a2]) rfl ⟨rfl, hr3.own (b := w.heap.size) (by repeat (first | exact Kept.refl _ _ _ | refine Kept.drew ?_ | refine Kept.alloc ?_ (by first | omega | (simp; done) | (simp; omega)) _ | refine Kept.setCell ?_ (by first | (right; rfl) | (left; first | omega | (simp; done) | (simp; omega))) _ | refine Kept.then_kept ?_ (by assumption) (by first | omega | (simp; done) | (simp; omega)) | refine Kept.then_below ?_ (by assumption) (by first | omega | (simp; done) | (simp; omega)) | refine Kept.low ?_ (by assumption))) hpl, (by repeat (first | exact Kept.refl _ _ _ | refine Kept.drew ?_ | refine Kept.alloc ?_ (by first | omega | (simp; done) | (simp; omega)) _ | refine Kept.setCell ?_ (by first | (right; rfl) | (left; first | omega | (simp; done) | (simp; omega))) _ | refine Kept.then_kept ?_ (by assumption) (by first | omega | (simp; done) | (simp; omega)) | refine Kept.then_below ?_ (by assumption) (by first | omega | (simp; done) | (simp; omega)) | refine Kept.low ?_ (by assumption)))⟩
    · have hb : ((rdS' (rdN' st 2) 24).e != 0) = true := by simpa using he
      have hv := rdVal_bad (by rw [h1]; exact he)
      rw [h1, hv]
      have H0 := Lib.hid h0
      clear he hv h1 h0
      go_enter Try.func84, Try.ntmps84
      go_wp2_with (fail)
      refine (c_octet_RNum p st 2 _ (h.below ((Below.refl _ _).alloc (Nat.le_refl _) _))).mono ?_
      rintro e w1 ⟨rfl, hr1, hk1⟩
      rw [H0.out]
      have hz1 := hk1.size
      simp only [World.size_alloc] at hz1
      have B0 := Lib.hid ((Blk.new w 56 #[.int .i64 0, .int .i64 0, .string (str [])]).kept hk1 (by simp) (ne_of_lt hpl (Nat.le_refl _)))
      go_wp2_with (fail)
      refine (c_octet_RStr p (rdN' st 2) 24 _ (hr1.below ((Below.refl _ _).alloc (Nat.le_refl _) _))).mono ?_
      rintro e w2 ⟨rfl, hr2, hk2⟩
      have hz2 := hk2.size
      simp only [World.size_alloc] at hz2
      have B1 := Lib.hid ((B0.out.below ((Below.refl _ _).alloc (Nat.le_refl _) _) B0.out.lt).kept hk2 (by simp; omega) (ne_of_lt hpl (Nat.le_refl _)))
      have C1 := Lib.hid ((Blk.new w1 56 #[.int .i64 2, .int .i64 0, .string (str [])]).kept hk2 (by simp) (ne_of_lt hpl (by omega)))
      obtain ⟨b0, b1, b2, bf⟩ := C1.out.three
      go_wp2_with (fail)
      refine (c_octet_Err p (rdS' (rdN' st 2) 24) _ (hr2.own (b := w1.heap.size) (by repeat (first | exact Kept.refl _ _ _ | refine Kept.drew ?_ | refine Kept.alloc ?_ (by first | omega | (simp; done) | (simp; omega)) _ | refine Kept.setCell ?_ (by first | (right; rfl) | (left; first | omega | (simp; done) | (simp; omega))) _ | refine Kept.then_kept ?_ (by assumption) (by first | omega | (simp; done) | (simp; omega)) | refine Kept.then_below ?_ (by assumption) (by first | omega | (simp; done) | (simp; omega)) | refine Kept.low ?_ (by assumption))) (fun g hg => by have := hpl g hg; omega))).mono ?_
      rintro e w3 ⟨rfl, hr3, hk3⟩
      have hz3 := hk3.size
      have hz3' : w2.heap.size ≤ w3.heap.size := by simpa [World.setCell] using hz3
      clear b0 b1 b2 bf hz3
      obtain ⟨a0, a1, a2, af⟩ := ((B1.out.far (q := ⟨w1.heap.size, 2, none⟩) (by simp; omega) _).kept hk3 (by simp [World.setCell]; omega) (ne_of_lt hpl (Nat.le_refl _))).three
      obtain ⟨b0, b1, b2, bf⟩ := (((C1.out.store 2 (.string (str (rdS (rdN' st 2) 24)))).kept hk3 (by simp [World.setCell]; omega) (ne_of_lt hpl (by omega)) : Blk w3 w1.heap.size #[.int .i64 2, .int .i64 0, .string (str (rdS (rdN' st 2) 24))])).three
      go_wp2_with (fail)
      refine bodyPost_ret (v := .agg #[.int .i64 0, .int .i64 0, .string (str [])]) (by simp [results, Try.results84, go_sem, a0, a1, a2]) rfl ⟨rfl, hr3.own (b := w.heap.size) (by repeat (first | exact Kept.refl _ _ _ | refine Kept.drew ?_ | refine Kept.alloc ?_ (by first | omega | (simp; done) | (simp; omega)) _ | refine Kept.setCell ?_ (by first | (right; rfl) | (left; first | omega | (simp; done) | (simp; omega))) _ | refine Kept.then_kept ?_ (by assumption) (by first | omega | (simp; done) | (simp; omega)) | refine Kept.then_below ?_ (by assumption) (by first | omega | (simp; done) | (simp; omega)) | refine Kept.low ?_ (by assumption))) hpl, (by repeat (first | exact Kept.refl _ _ _ | refine Kept.drew ?_ | refine Kept.alloc ?_ (by first | omega | (simp; done) | (simp; omega)) _ | refine Kept.setCell ?_ (by first | (right; rfl) | (left; first | omega | (simp; done) | (simp; omega))) _ | refine Kept.then_kept ?_ (by assumption) (by first | omega | (simp; done) | (simp; omega)) | refine Kept.then_below ?_ (by assumption) (by first | omega | (simp; done) | (simp; omega)) | refine Kept.low ?_ (by assumption)))⟩
end Go.Proofs.Ytplipddgeanajaa
