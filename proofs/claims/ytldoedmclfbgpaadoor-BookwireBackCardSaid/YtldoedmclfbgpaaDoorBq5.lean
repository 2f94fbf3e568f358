/-
  Lemmas (walks and plain laws), in one text.
-/
import Derived.Test.YtldoedmclfbgpaaDoorBq1
import Derived.Test.YtldoedmclfbgpaaDoorBq2
import Derived.Test.YtldoedmclfbgpaaDoorBq3
import Derived.Test.YtldoedmclfbgpaaDoorBq4
namespace Go.Proofs.YtldoedmclfbgpaaDoor
open Go.RowKit

theorem Blk.three {w : World} {g : Nat} {a b c : Value} (h : Blk w g #[a, b, c]) : w.cell? ⟨g, 0, none⟩ = some a ∧ w.cell? ⟨g, 1, none⟩ = some b ∧ w.cell? ⟨g, 2, none⟩ = some c ∧ ∀ i, w.frozen? ⟨g, i, none⟩ = false :=
  ⟨h.cell rfl, h.cell rfl, h.cell rfl, fun i => h.frozen i⟩
theorem RdP.own {w w' : World} {p : Option Nat} {st : Rd} {b : Nat} (r : RdP w p st) (k : Kept (some b) w.heap.size w w') (hb : ∀ g, p = some g → g < b) : RdP w' p st :=
  r.kept k (fun g h hg hh => by injection hh with hh; subst hh; exact hb g hg)
theorem RdP.up {w w' : World} {p : Option Nat} {st : Rd} {B : Nat} (r : RdP w p st) (k : Below B w w') (hb : ∀ g, p = some g → g < B) : RdP w' p st := by
  rcases r with ⟨rfl, hs⟩ | ⟨g, A, c, L, pos, rfl, ⟨h1, h2, h3, h4, h5, h6⟩, hs⟩
  · exact .inl ⟨rfl, hs⟩
  · have hg := hb g rfl
    exact .inr ⟨g, A, c, L, pos, rfl, ⟨h1.below k hg, h2, h3, h4, h5, h6.imp id fun ⟨b, off, hA, hbg, hr⟩ => ⟨b, off, hA, hbg, hr.belowB k (by omega)⟩⟩, hs⟩
theorem RdR.up {w w' : World} {h : Nat} {st : Rd} {B : Nat} (r : RdR w h st) (k : Below B w w') (hb : h < B) : RdR w' h st := ⟨r.1.below k hb, r.2⟩
theorem ne_of_lt {p : Option Nat} {n b : Nat} (h : ∀ g, p = some g → g < n) (hb : n ≤ b) : p ≠ some b := fun e => by have := h b e; omega
set_option maxHeartbeats 2000000 in
set_option maxRecDepth 4000 in
theorem c_cardwire_Value (p : Option Nat) (st : Rd) (w : World) (h : RdP w p st) : Calls Tryd.prog 59 #[ptr p] w (RetP p (rdVal' st) w (rdVal st).val) := by
  unfold Val.val
  have hpl := fun g (hg : p = some g) => h.lt hg
  rcases rdN2_cases st with h0 | h0 | h0
  · have h1 := rdVal'_0 h0
    by_cases he : (rdN' st 2).e = 0
    · have hb : ((rdN' st 2).e != 0) = false := by simpa using he
      have hv := rdVal_0 (by rw [h1]; exact he) h0
      rw [h1, hv]
      have H0 := Lib.hid h0
      clear he hv h1 h0
      go_enter Tryd.func59, Tryd.ntmps59
      go_wp2_with (fail)
      refine (c_octet_RNum p st 2 _ (h.below ((Below.refl _ _).alloc (Nat.le_refl _) _))).mono ?_
      rintro e w1 ⟨rfl, hr1, hk1⟩
      rw [H0.out]
      have hz1 := hk1.size
      simp only [World.size_alloc] at hz1
      have B0 := Lib.hid ((Blk.new w 53 #[.int .i64 0, .int .i64 0, .string (str [])]).kept hk1 (by simp) (ne_of_lt hpl (Nat.le_refl _)))
      go_wp2_with (fail)
      refine (c_octet_Err p (rdN' st 2) _ (hr1.below ((Below.refl _ _).alloc (Nat.le_refl _) _))).mono ?_
      rintro e w2 ⟨rfl, hr2, hk2⟩
      have hz2 := hk2.size
      simp only [World.size_alloc] at hz2
      obtain ⟨a0, a1, a2, af⟩ := ((B0.out.below ((Below.refl _ _).alloc (Nat.le_refl _) _) B0.out.lt).kept hk2 (by simp; omega) (ne_of_lt hpl (Nat.le_refl _))).three
      obtain ⟨b0, b1, b2, bf⟩ := ((Blk.new w1 53 #[.int .i64 0, .int .i64 0, .string (str [])]).kept hk2 (by simp) (ne_of_lt hpl (by omega))).three
      go_wp2_with (fail)
      refine bodyPost_ret (v := .agg #[.int .i64 0, .int .i64 0, .string (str [])]) (by simp [results, Tryd.results59, go_sem, a0, a1, a2]) rfl ⟨rfl, hr2.own (b := w.heap.size) (by repeat (first | exact Kept.refl _ _ _ | refine Kept.drew ?_ | refine Kept.alloc ?_ (by first | omega | (simp; done) | (simp; omega)) _ | refine Kept.setCell ?_ (by first | (right; rfl) | (left; first | omega | (simp; done) | (simp; omega))) _ | refine Kept.then_kept ?_ (by assumption) (by first | omega | (simp; done) | (simp; omega)) | refine Kept.then_below ?_ (by assumption) (by first | omega | (simp; done) | (simp; omega)) | refine Kept.low ?_ (by assumption))) hpl, (by repeat (first | exact Kept.refl _ _ _ | refine Kept.drew ?_ | refine Kept.alloc ?_ (by first | omega | (simp; done) | (simp; omega)) _ | refine Kept.setCell ?_ (by first | (right; rfl) | (left; first | omega | (simp; done) | (simp; omega))) _ | refine Kept.then_kept ?_ (by assumption) (by first | omega | (simp; done) | (simp; omega)) | refine Kept.then_below ?_ (by assumption) (by first | omega | (simp; done) | (simp; omega)) | refine Kept.low ?_ (by assumption)))⟩
    · have hb : ((rdN' st 2).e != 0) = true := by simpa using he
      have hv := rdVal_bad (by rw [h1]; exact he)
      rw [h1, hv]
      have H0 := Lib.hid h0
      clear he hv h1 h0
      go_enter Tryd.func59, Tryd.ntmps59
      go_wp2_with (fail)
      refine (c_octet_RNum p st 2 _ (h.below ((Below.refl _ _).alloc (Nat.le_refl _) _))).mono ?_
      rintro e w1 ⟨rfl, hr1, hk1⟩
      rw [H0.out]
      have hz1 := hk1.size
      simp only [World.size_alloc] at hz1
      have B0 := Lib.hid ((Blk.new w 53 #[.int .i64 0, .int .i64 0, .string (str [])]).kept hk1 (by simp) (ne_of_lt hpl (Nat.le_refl _)))
      go_wp2_with (fail)
      refine (c_octet_Err p (rdN' st 2) _ (hr1.below ((Below.refl _ _).alloc (Nat.le_refl _) _))).mono ?_
      rintro e w2 ⟨rfl, hr2, hk2⟩
      have hz2 := hk2.size
      simp only [World.size_alloc] at hz2
      obtain ⟨a0, a1, a2, af⟩ := ((B0.out.below ((Below.refl _ _).alloc (Nat.le_refl _) _) B0.out.lt).kept hk2 (by simp; omega) (ne_of_lt hpl (Nat.le_refl _))).three
      obtain ⟨b0, b1, b2, bf⟩ := ((Blk.new w1 53 #[.int .i64 0, .int .i64 0, .string (str [])]).kept hk2 (by simp) (ne_of_lt hpl (by omega))).three
      go_wp2_with (fail)
      refine bodyPost_ret (v := .agg #[.int .i64 0, .int .i64 0, .string (str [])]) (by simp [results, Tryd.results59, go_sem, a0, a1, a2]) rfl ⟨rfl, hr2.own (b := w.heap.size) (by repeat (first | exact Kept.refl _ _ _ | refine Kept.drew ?_ | refine Kept.alloc ?_ (by first | omega | (simp; done) | (simp; omega)) _ | refine Kept.setCell ?_ (by first | (right; rfl) | (left; first | omega | (simp; done) | (simp; omega))) _ | refine Kept.then_kept ?_ (by assumption) (by first | omega | (simp; done) | (simp; omega)) | refine Kept.then_below ?_ (by assumption) (by first | omega | (simp; done) | (simp; omega)) | refine Kept.low ?_ (by assumption))) hpl, (by repeat (first | exact Kept.refl _ _ _ | refine Kept.drew ?_ | refine Kept.alloc ?_ (by first | omega | (simp; done) | (simp; omega)) _ | refine Kept.setCell ?_ (by first | (right; rfl) | (left; first | omega | (simp; done) | (simp; omega))) _ | refine Kept.then_kept ?_ (by assumption) (by first | omega | (simp; done) | (simp; omega)) | refine Kept.then_below ?_ (by assumption) (by first | omega | (simp; done) | (simp; omega)) | refine Kept.low ?_ (by assumption)))⟩
  · have h1 := rdVal'_1 h0
    by_cases he : (rdN' (rdN' st 2) 1099511627776).e = 0
    · have hb : ((rdN' (rdN' st 2) 1099511627776).e != 0) = false := by simpa using he
      have hv := rdVal_1 (by rw [h1]; exact he) h0
      rw [h1, hv]
      have H0 := Lib.hid h0
      clear he hv h1 h0
      go_enter Tryd.func59, Tryd.ntmps59
      go_wp2_with (fail)
      refine (c_octet_RNum p st 2 _ (h.below ((Below.refl _ _).alloc (Nat.le_refl _) _))).mono ?_
      rintro e w1 ⟨rfl, hr1, hk1⟩
      rw [H0.out]
      have hz1 := hk1.size
      simp only [World.size_alloc] at hz1
      have B0 := Lib.hid ((Blk.new w 53 #[.int .i64 0, .int .i64 0, .string (str [])]).kept hk1 (by simp) (ne_of_lt hpl (Nat.le_refl _)))
      go_wp2_with (fail)
      refine (c_octet_RNum p (rdN' st 2) 1099511627776 _ (hr1.below ((Below.refl _ _).alloc (Nat.le_refl _) _))).mono ?_
      rintro e w2 ⟨rfl, hr2, hk2⟩
      have hz2 := hk2.size
      simp only [World.size_alloc] at hz2
      have B1 := Lib.hid ((B0.out.below ((Below.refl _ _).alloc (Nat.le_refl _) _) B0.out.lt).kept hk2 (by simp; omega) (ne_of_lt hpl (Nat.le_refl _)))
      have C1 := Lib.hid ((Blk.new w1 53 #[.int .i64 1, .int .i64 0, .string (str [])]).kept hk2 (by simp) (ne_of_lt hpl (by omega)))
      obtain ⟨b0, b1, b2, bf⟩ := C1.out.three
      go_wp2_with (fail)
      refine (c_octet_Err p (rdN' (rdN' st 2) 1099511627776) _ (hr2.own (b := w1.heap.size) (by repeat (first | exact Kept.refl _ _ _ | refine Kept.drew ?_ | refine Kept.alloc ?_ (by first | omega | (simp; done) | (simp; omega)) _ | refine Kept.setCell ?_ (by first | (right; rfl) | (left; first | omega | (simp; done) | (simp; omega))) _ | refine Kept.then_kept ?_ (by assumption) (by first | omega | (simp; done) | (simp; omega)) | refine Kept.then_below ?_ (by assumption) (by first | omega | (simp; done) | (simp; omega)) | refine Kept.low ?_ (by assumption))) (fun g hg => by have := hpl g hg; omega))).mono ?_
      rintro e w3 ⟨rfl, hr3, hk3⟩
      have hz3 := hk3.size
      have hz3' : w2.heap.size ≤ w3.heap.size := by simpa [World.setCell] using hz3
      clear b0 b1 b2 bf hz3
      obtain ⟨a0, a1, a2, af⟩ := ((B1.out.far (q := ⟨w1.heap.size, 1, none⟩) (by simp; omega) _).kept hk3 (by simp [World.setCell]; omega) (ne_of_lt hpl (Nat.le_refl _))).three
      obtain ⟨b0, b1, b2, bf⟩ := (((C1.out.store 1 (.int .i64 (rdN (rdN' st 2) 1099511627776))).kept hk3 (by simp [World.setCell]; omega) (ne_of_lt hpl (by omega)) : Blk w3 w1.heap.size #[.int .i64 1, .int .i64 (rdN (rdN' st 2) 1099511627776), .string (str [])])).three
      go_wp2_with (fail)
      refine bodyPost_ret (v := .agg #[.int .i64 1, .int .i64 (rdN (rdN' st 2) 1099511627776), .string (str [])]) (by simp [results, Tryd.results59, go_sem, a0, a1, a2]) rfl ⟨rfl, hr3.own (b := w.heap.size) (by repeat (first | exact Kept.refl _ _ _ | refine Kept.drew ?_ | refine Kept.alloc ?_ (by first | omega | (simp; done) | (simp; omega)) _ | refine Kept.setCell ?_ (by first | (right; rfl) | (left; first | omega | (simp; done) | (simp; omega))) _ | refine Kept.then_kept ?_ (by assumption) (by first | omega | (simp; done) | (simp; omega)) | refine Kept.then_below ?_ (by assumption) (by first | omega | (simp; done) | (simp; omega)) | refine Kept.low ?_ (by assumption))) hpl, (by repeat (first | exact Kept.refl _ _ _ | refine Kept.drew ?_ | refine Kept.alloc ?_ (by first | omega | (simp; done) | (simp; omega)) _ | refine Kept.setCell ?_ (by first | (right; rfl) | (left; first | omega | (simp; done) | (simp; omega))) _ | refine Kept.then_kept ?_ (by assumption) (by first | omega | (simp; done) | (simp; omega)) | refine Kept.then_below ?_ (by assumption) (by first | omega | (simp; done) | (simp; omega)) | refine Kept.low ?_ (by assumption)))⟩
    · have hb : ((rdN' (rdN' st 2) 1099511627776).e != 0) = true := by simpa using he
      have hv := rdVal_bad (by rw [h1]; exact he)
      rw [h1, hv]
      have H0 := Lib.hid h0
      clear he hv h1 h0
      go_enter Tryd.func59, Tryd.ntmps59
      go_wp2_with (fail)
      refine (c_octet_RNum p st 2 _ (h.below ((Below.refl _ _).alloc (Nat.le_refl _) _))).mono ?_
      rintro e w1 ⟨rfl, hr1, hk1⟩
      rw [H0.out]
      have hz1 := hk1.size
      simp only [World.size_alloc] at hz1
      have B0 := Lib.hid ((Blk.new w 53 #[.int .i64 0, .int .i64 0, .string (str [])]).kept hk1 (by simp) (ne_of_lt hpl (Nat.le_refl _)))
      go_wp2_with (fail)
      refine (c_octet_RNum p (rdN' st 2) 1099511627776 _ (hr1.below ((Below.refl _ _).alloc (Nat.le_refl _) _))).mono ?_
      rintro e w2 ⟨rfl, hr2, hk2⟩
      have hz2 := hk2.size
      simp only [World.size_alloc] at hz2
      have B1 := Lib.hid ((B0.out.below ((Below.refl _ _).alloc (Nat.le_refl _) _) B0.out.lt).kept hk2 (by simp; omega) (ne_of_lt hpl (Nat.le_refl _)))
      have C1 := Lib.hid ((Blk.new w1 53 #[.int .i64 1, .int .i64 0, .string (str [])]).kept hk2 (by simp) (ne_of_lt hpl (by omega)))
      obtain ⟨b0, b1, b2, bf⟩ := C1.out.three
      go_wp2_with (fail)
      refine (c_octet_Err p (rdN' (rdN' st 2) 1099511627776) _ (hr2.own (b := w1.heap.size) (by repeat (first | exact Kept.refl _ _ _ | refine Kept.drew ?_ | refine Kept.alloc ?_ (by first | omega | (simp; done) | (simp; omega)) _ | refine Kept.setCell ?_ (by first | (right; rfl) | (left; first | omega | (simp; done) | (simp; omega))) _ | refine Kept.then_kept ?_ (by assumption) (by first | omega | (simp; done) | (simp; omega)) | refine Kept.then_below ?_ (by assumption) (by first | omega | (simp; done) | (simp; omega)) | refine Kept.low ?_ (by assumption))) (fun g hg => by have := hpl g hg; omega))).mono ?_
      rintro e w3 ⟨rfl, hr3, hk3⟩
      have hz3 := hk3.size
      have hz3' : w2.heap.size ≤ w3.heap.size := by simpa [World.setCell] using hz3
      clear b0 b1 b2 bf hz3
      obtain ⟨a0, a1, a2, af⟩ := ((B1.out.far (q := ⟨w1.heap.size, 1, none⟩) (by simp; omega) _).kept hk3 (by simp [World.setCell]; omega) (ne_of_lt hpl (Nat.le_refl _))).three
      obtain ⟨b0, b1, b2, bf⟩ := (((C1.out.store 1 (.int .i64 (rdN (rdN' st 2) 1099511627776))).kept hk3 (by simp [World.setCell]; omega) (ne_of_lt hpl (by omega)) : Blk w3 w1.heap.size #[.int .i64 1, .int .i64 (rdN (rdN' st 2) 1099511627776), .string (str [])])).three
      go_wp2_with (fail)
      refine bodyPost_ret (v := .agg #[.int .i64 0, .int .i64 0, .string (str [])]) (by simp [results, Tryd.results59, go_sem, a0, a1, a2]) rfl ⟨rfl, hr3.own (b := w.heap.size) (by repeat (first | exact Kept.refl _ _ _ | refine Kept.drew ?_ | refine Kept.alloc ?_ (by first | omega | (simp; done) | (simp; omega)) _ | refine Kept.setCell ?_ (by first | (right; rfl) | (left; first | omega | (simp; done) | (simp; omega))) _ | refine Kept.then_kept ?_ (by assumption) (by first | omega | (simp; done) | (simp; omega)) | refine Kept.then_below ?_ (by assumption) (by first | omega | (simp; done) | (simp; omega)) | refine Kept.low ?_ (by assumption))) hpl, (by repeat (first | exact Kept.refl _ _ _ | refine Kept.drew ?_ | refine Kept.alloc ?_ (by first | omega | (simp; done) | (simp; omega)) _ | refine Kept.setCell ?_ (by first | (right; rfl) | (left; first | omega | (simp; done) | (simp; omega))) _ | refine Kept.then_kept ?_ (by assumption) (by first | omega | (simp; done) | (simp; omega)) | refine Kept.then_below ?_ (by assumption) (by first | omega | (simp; done) | (simp; omega)) | refine Kept.low ?_ (by assumption)))⟩
  · have h1 := rdVal'_2 h0
    by_cases he : (rdS' (rdN' st 2) 24).e = 0
    · have hb : ((rdS' (rdN' st 2) 24).e != 0) = false := by simpa using he
      have hv := rdVal_2 (by rw [h1]; exact he) h0
      rw [h1, hv]
      have H0 := Lib.hid h0
      clear he hv h1 h0
      go_enter Tryd.func59, Tryd.ntmps59
      go_wp2_with (fail)
      refine (c_octet_RNum p st 2 _ (h.below ((Below.refl _ _).alloc (Nat.le_refl _) _))).mono ?_
      rintro e w1 ⟨rfl, hr1, hk1⟩
      rw [H0.out]
      have hz1 := hk1.size
      simp only [World.size_alloc] at hz1
      have B0 := Lib.hid ((Blk.new w 53 #[.int .i64 0, .int .i64 0, .string (str [])]).kept hk1 (by simp) (ne_of_lt hpl (Nat.le_refl _)))
      go_wp2_with (fail)
      refine (c_octet_RStr p (rdN' st 2) 24 _ (hr1.below ((Below.refl _ _).alloc (Nat.le_refl _) _))).mono ?_
      rintro e w2 ⟨rfl, hr2, hk2⟩
      have hz2 := hk2.size
      simp only [World.size_alloc] at hz2
      have B1 := Lib.hid ((B0.out.below ((Below.refl _ _).alloc (Nat.le_refl _) _) B0.out.lt).kept hk2 (by simp; omega) (ne_of_lt hpl (Nat.le_refl _)))
      have C1 := Lib.hid ((Blk.new w1 53 #[.int .i64 2, .int .i64 0, .string (str [])]).kept hk2 (by simp) (ne_of_lt hpl (by omega)))
      obtain ⟨b0, b1, b2, bf⟩ := C1.out.three
      go_wp2_with (fail)
      refine (c_octet_Err p (rdS' (rdN' st 2) 24) _ (hr2.own (b := w1.heap.size) (by repeat (first | exact Kept.refl _ _ _ | refine Kept.drew ?_ | refine Kept.alloc ?_ (by first | omega | (simp; done) | (simp; omega)) _ | refine Kept.setCell ?_ (by first | (right; rfl) | (left; first | omega | (simp; done) | (simp; omega))) _ | refine Kept.then_kept ?_ (by assumption) (by first | omega | (simp; done) | (simp; omega)) | refine Kept.then_below ?_ (by assumption) (by first | omega | (simp; done) | (simp; omega)) | refine Kept.low ?_ (by assumption))) (fun g hg => by have := hpl g hg; omega))).mono ?_
      rintro e w3 ⟨rfl, hr3, hk3⟩
      have hz3 := hk3.size
      have hz3' : w2.heap.size ≤ w3.heap.size := by simpa [World.setCell] using hz3
      clear b0 b1 b2 bf hz3
      obtain ⟨a0, a1, a2, af⟩ := ((B1.out.far (q := ⟨w1.heap.size, 2, none⟩) (by simp; omega) _).kept hk3 (by simp [World.setCell]; omega) (ne_of_lt hpl (Nat.le_refl _))).three
      obtain ⟨b0, b1, b2, bf⟩ := (((C1.out.store 2 (.string (str (rdS (rdN' st 2) 24)))).kept hk3 (by simp [World.setCell]; omega) (ne_of_lt hpl (by omega)) : Blk w3 w1.heap.size #[.int .i64 2, .int .i64 0, .string (str (rdS (rdN' st 2) 24))])).three
      go_wp2_with (fail)
      refine bodyPost_ret (v := .agg #[.int .i64 2, .int .i64 0, .string (str (rdS (rdN' st 2) 24))]) (by simp [results, Tryd.results59, go_sem, a0, a1, a2]) rfl ⟨rfl, hr3.own (b := w.heap.size) (by repeat (first | exact Kept.refl _ _ _ | refine Kept.drew ?_ | refine Kept.alloc ?_ (by first | omega | (simp; done) | (simp; omega)) _ | refine Kept.setCell ?_ (by first | (right; rfl) | (left; first | omega | (simp; done) | (simp; omega))) _ | refine Kept.then_kept ?_ (by assumption) (by first | omega | (simp; done) | (simp; omega)) | refine Kept.then_below ?_ (by assumption) (by first | omega | (simp; done) | (simp; omega)) | refine Kept.low ?_ (by assumption))) hpl, (by repeat (first | exact Kept.refl _ _ _ | refine Kept.drew ?_ | refine Kept.alloc ?_ (by first | omega | (simp; done) | (simp; omega)) _ | refine Kept.setCell ?_ (by first | (right; rfl) | (left; first | omega | (simp; done) | (simp; omega))) _ | refine Kept.then_kept ?_ (by assumption) (by first | omega | (simp; done) | (simp; omega)) | refine Kept.then_below ?_ (by assumption) (by first | omega | (simp; done) | (simp; omega)) | refine Kept.low ?_ (by assumption)))⟩
    · have hb : ((rdS' (rdN' st 2) 24).e != 0) = true := by simpa using he
      have hv := rdVal_bad (by rw [h1]; exact he)
      rw [h1, hv]
      have H0 := Lib.hid h0
      clear he hv h1 h0
      go_enter Tryd.func59, Tryd.ntmps59
      go_wp2_with (fail)
      refine (c_octet_RNum p st 2 _ (h.below ((Below.refl _ _).alloc (Nat.le_refl _) _))).mono ?_
      rintro e w1 ⟨rfl, hr1, hk1⟩
      rw [H0.out]
      have hz1 := hk1.size
      simp only [World.size_alloc] at hz1
      have B0 := Lib.hid ((Blk.new w 53 #[.int .i64 0, .int .i64 0, .string (str [])]).kept hk1 (by simp) (ne_of_lt hpl (Nat.le_refl _)))
      go_wp2_with (fail)
      refine (c_octet_RStr p (rdN' st 2) 24 _ (hr1.below ((Below.refl _ _).alloc (Nat.le_refl _) _))).mono ?_
      rintro e w2 ⟨rfl, hr2, hk2⟩
      have hz2 := hk2.size
      simp only [World.size_alloc] at hz2
      have B1 := Lib.hid ((B0.out.below ((Below.refl _ _).alloc (Nat.le_refl _) _) B0.out.lt).kept hk2 (by simp; omega) (ne_of_lt hpl (Nat.le_refl _)))
      have C1 := Lib.hid ((Blk.new w1 53 #[.int .i64 2, .int .i64 0, .string (str [])]).kept hk2 (by simp) (ne_of_lt hpl (by omega)))
      obtain ⟨b0, b1, b2, bf⟩ := C1.out.three
      go_wp2_with (fail)
      refine (c_octet_Err p (rdS' (rdN' st 2) 24) _ (hr2.own (b := w1.heap.size) (by repeat (first | exact Kept.refl _ _ _ | refine Kept.drew ?_ | refine Kept.alloc ?_ (by first | omega | (simp; done) | (simp; omega)) _ | refine Kept.setCell ?_ (by first | (right; rfl) | (left; first | omega | (simp; done) | (simp; omega))) _ | refine Kept.then_kept ?_ (by assumption) (by first | omega | (simp; done) | (simp; omega)) | refine Kept.then_below ?_ (by assumption) (by first | omega | (simp; done) | (simp; omega)) | refine Kept.low ?_ (by assumption))) (fun g hg => by have := hpl g hg; omega))).mono ?_
      rintro e w3 ⟨rfl, hr3, hk3⟩
      have hz3 := hk3.size
      have hz3' : w2.heap.size ≤ w3.heap.size := by simpa [World.setCell] using hz3
      clear b0 b1 b2 bf hz3
      obtain ⟨a0, a1, a2, af⟩ := ((B1.out.far (q := ⟨w1.heap.size, 2, none⟩) (by simp; omega) _).kept hk3 (by simp [World.setCell]; omega) (ne_of_lt hpl (Nat.le_refl _))).three
      obtain ⟨b0, b1, b2, bf⟩ := (((C1.out.store 2 (.string (str (rdS (rdN' st 2) 24)))).kept hk3 (by simp [World.setCell]; omega) (ne_of_lt hpl (by omega)) : Blk w3 w1.heap.size #[.int .i64 2, .int .i64 0, .string (str (rdS (rdN' st 2) 24))])).three
      go_wp2_with (fail)
      refine bodyPost_ret (v := .agg #[.int .i64 0, .int .i64 0, .string (str [])]) (by simp [results, Tryd.results59, go_sem, a0, a1, a2]) rfl ⟨rfl, hr3.own (b := w.heap.size) (by repeat (first | exact Kept.refl _ _ _ | refine Kept.drew ?_ | refine Kept.alloc ?_ (by first | omega | (simp; done) | (simp; omega)) _ | refine Kept.setCell ?_ (by first | (right; rfl) | (left; first | omega | (simp; done) | (simp; omega))) _ | refine Kept.then_kept ?_ (by assumption) (by first | omega | (simp; done) | (simp; omega)) | refine Kept.then_below ?_ (by assumption) (by first | omega | (simp; done) | (simp; omega)) | refine Kept.low ?_ (by assumption))) hpl, (by repeat (first | exact Kept.refl _ _ _ | refine Kept.drew ?_ | refine Kept.alloc ?_ (by first | omega | (simp; done) | (simp; omega)) _ | refine Kept.setCell ?_ (by first | (right; rfl) | (left; first | omega | (simp; done) | (simp; omega))) _ | refine Kept.then_kept ?_ (by assumption) (by first | omega | (simp; done) | (simp; omega)) | refine Kept.then_below ?_ (by assumption) (by first | omega | (simp; done) | (simp; omega)) | refine Kept.low ?_ (by assumption)))⟩
end Go.Proofs.YtldoedmclfbgpaaDoor
namespace Go.Proofs.YtldoedmclfbgpaaDoor
open Go.RowKit

set_option maxHeartbeats 1000000 in
theorem c_cardwire_above (p : Option Nat) (st : Rd) (most : Int) (w : World) (h : RdP w p st) : Calls Tryd.prog 40 #[ptr p, .int .i64 most] w (RetP p (rdAb' st most) w (.int .i64 (rdN st most))) := by
  by_cases h0 : rdN st most = 0
  · rw [rdAb'_zero h0]
    have k : (rdN st most == 0) = true := by simpa using h0
    clear h0
    go_enter Tryd.func40, Tryd.ntmps40
    go_wp2_with (fail)
    refine (c_octet_RNum p st most _ h).mono ?_
    rintro e w1 ⟨rfl, hr1, hk1⟩
    have hz1 := hk1.size
    go_wp2_with (fail)
    refine (c_octet_Fail p (rdN' st most) 3 _ hr1).mono ?_
    rintro e w2 ⟨rfl, hr2, hk2⟩
    have hz2 := hk2.size
    go_wp2_with (fail)
    go_ret
    exact ⟨rfl, hr2, (by repeat (first | exact Kept.refl _ _ _ | refine Kept.drew ?_ | refine Kept.alloc ?_ (by first | omega | (simp; done) | (simp; omega)) _ | refine Kept.setCell ?_ (by first | (right; rfl) | (left; first | omega | (simp; done) | (simp; omega))) _ | refine Kept.then_kept ?_ (by assumption) (by first | omega | (simp; done) | (simp; omega)) | refine Kept.then_below ?_ (by assumption) (by first | omega | (simp; done) | (simp; omega)) | refine Kept.low ?_ (by assumption)))⟩
  · rw [rdAb'_pos h0]
    have k : (rdN st most == 0) = false := by simpa using h0
    clear h0
    go_enter Tryd.func40, Tryd.ntmps40
    go_wp2_with (fail)
    refine (c_octet_RNum p st most _ h).mono ?_
    rintro e w1 ⟨rfl, hr1, hk1⟩
    have hz1 := hk1.size
    go_wp2_with (fail)
    go_ret
    exact ⟨rfl, hr1, (by repeat (first | exact Kept.refl _ _ _ | refine Kept.drew ?_ | refine Kept.alloc ?_ (by first | omega | (simp; done) | (simp; omega)) _ | refine Kept.setCell ?_ (by first | (right; rfl) | (left; first | omega | (simp; done) | (simp; omega))) _ | refine Kept.then_kept ?_ (by assumption) (by first | omega | (simp; done) | (simp; omega)) | refine Kept.then_below ?_ (by assumption) (by first | omega | (simp; done) | (simp; omega)) | refine Kept.low ?_ (by assumption)))⟩
set_option maxHeartbeats 1000000 in
theorem c_cardwire_labels (p : Option Nat) (st : Rd) (w : World) (h : RdP w p st) : Calls Tryd.prog 41 #[ptr p] w (RetP p (rdN' st 65535) w (.int .u32 (rdN st 65535).toNat)) := by
  have hb := rdN_bd st 65535
  go_enter Tryd.func41, Tryd.ntmps41
  go_wp2_with (fail)
  refine (c_octet_RNum p st 65535 _ h).mono ?_
  rintro e w1 ⟨rfl, hr1, hk1⟩
  have hz1 := hk1.size
  go_wp2_with (fail)
  go_ret
  have hc : ((rdN st 65535).toNat : Int) = rdN st 65535 := by omega
  rw [hc]
  exact ⟨rfl, hr1, (by repeat (first | exact Kept.refl _ _ _ | refine Kept.drew ?_ | refine Kept.alloc ?_ (by first | omega | (simp; done) | (simp; omega)) _ | refine Kept.setCell ?_ (by first | (right; rfl) | (left; first | omega | (simp; done) | (simp; omega))) _ | refine Kept.then_kept ?_ (by assumption) (by first | omega | (simp; done) | (simp; omega)) | refine Kept.then_below ?_ (by assumption) (by first | omega | (simp; done) | (simp; omega)) | refine Kept.low ?_ (by assumption)))⟩
set_option maxHeartbeats 1000000 in
theorem c_ref08_above (h : Nat) (st : Rd) (most : Int) (w : World) (r : RdR w h st) : Calls Tryd.prog 66 #[.pointer (some ⟨h, 0, none⟩), .int .i64 most] w (RetR h (rdAb' st most) w (.int .i64 (rdN st most))) := by
  by_cases he : (rdN' st most).e = 0
  · have ke : ((rdN' st most).e == 0) = true := by simpa using he
    by_cases h0 : rdN st most = 0
    · rw [rdAb'_zero h0]
      have k : (rdN st most == 0) = true := by simpa using h0
      clear h0 he
      go_enter Tryd.func66, Tryd.ntmps66
      go_wp2_with (fail)
      refine (c_ref01_RNum h st most _ r).mono ?_
      rintro e w1 ⟨rfl, hr1, hk1⟩
      have hz1 := hk1.size
      have hc := hr1.1.cell (i := 1) rfl
      go_wp2_with (fail)
      refine (c_ref01_Fail h (rdN' st most) 3 _ hr1).mono ?_
      rintro e w2 ⟨rfl, hr2, hk2⟩
      have hz2 := hk2.size
      go_wp2_with (fail)
      go_ret
      exact ⟨rfl, hr2, (by repeat (first | exact Kept.refl _ _ _ | refine Kept.drew ?_ | refine Kept.alloc ?_ (by first | omega | (simp; done) | (simp; omega)) _ | refine Kept.setCell ?_ (by first | (right; rfl) | (left; first | omega | (simp; done) | (simp; omega))) _ | refine Kept.then_kept ?_ (by assumption) (by first | omega | (simp; done) | (simp; omega)) | refine Kept.then_below ?_ (by assumption) (by first | omega | (simp; done) | (simp; omega)) | refine Kept.low ?_ (by assumption)))⟩
    · rw [rdAb'_pos h0]
      have k : (rdN st most == 0) = false := by simpa using h0
      clear h0 he
      go_enter Tryd.func66, Tryd.ntmps66
      go_wp2_with (fail)
      refine (c_ref01_RNum h st most _ r).mono ?_
      rintro e w1 ⟨rfl, hr1, hk1⟩
      have hz1 := hk1.size
      have hc := hr1.1.cell (i := 1) rfl
      go_wp2_with (fail)
      go_ret
      exact ⟨rfl, hr1, (by repeat (first | exact Kept.refl _ _ _ | refine Kept.drew ?_ | refine Kept.alloc ?_ (by first | omega | (simp; done) | (simp; omega)) _ | refine Kept.setCell ?_ (by first | (right; rfl) | (left; first | omega | (simp; done) | (simp; omega))) _ | refine Kept.then_kept ?_ (by assumption) (by first | omega | (simp; done) | (simp; omega)) | refine Kept.then_below ?_ (by assumption) (by first | omega | (simp; done) | (simp; omega)) | refine Kept.low ?_ (by assumption)))⟩
  · have ke : ((rdN' st most).e == 0) = false := by simpa using he
    rw [rdAb'_zero (rdN_err' he), rdF_err he]
    clear he
    go_enter Tryd.func66, Tryd.ntmps66
    go_wp2_with (fail)
    refine (c_ref01_RNum h st most _ r).mono ?_
    rintro e w1 ⟨rfl, hr1, hk1⟩
    have hz1 := hk1.size
    have hc := hr1.1.cell (i := 1) rfl
    go_wp2_with (fail)
    go_ret
    exact ⟨rfl, hr1, (by repeat (first | exact Kept.refl _ _ _ | refine Kept.drew ?_ | refine Kept.alloc ?_ (by first | omega | (simp; done) | (simp; omega)) _ | refine Kept.setCell ?_ (by first | (right; rfl) | (left; first | omega | (simp; done) | (simp; omega))) _ | refine Kept.then_kept ?_ (by assumption) (by first | omega | (simp; done) | (simp; omega)) | refine Kept.then_below ?_ (by assumption) (by first | omega | (simp; done) | (simp; omega)) | refine Kept.low ?_ (by assumption)))⟩

/-! One field, by the closure. -/
theorem farr_put {f : List Val} {k : Nat} (h : k < f.length) (x : Val) : putAt (farr f) (k * 3) [.int .i64 x.kind, .int .i64 x.n, .string (str x.s)] = farr (f.set k x) := by
  have hs := farr_size f
  have hs' := farr_size (f.set k x)
  rw [List.length_set] at hs'
  apply Array.ext_getElem?
  intro i
  by_cases hi : i < f.length * 3
  · obtain ⟨q, r, hr, rfl⟩ : ∃ q r, r < 3 ∧ i = q * 3 + r := ⟨i / 3, i % 3, by omega, by omega⟩
    have hq : q < f.length := by omega
    obtain ⟨a0, a1, a2⟩ := farr_get (f := f.set k x) (k := q) (by rw [List.length_set]; exact hq)
    obtain ⟨b0, b1, b2⟩ := farr_get (f := f) (k := q) hq
    by_cases hk : q = k
    · subst hk
      have hp : (putAt (farr f) (q * 3) [.int .i64 x.kind, .int .i64 x.n, .string (str x.s)])[q * 3 + r]? = ([.int .i64 x.kind, .int .i64 x.n, .string (str x.s)] : List Value)[r]? := putAt_in _ _ _ r (by rw [hs]; simp; omega) (by simpa using hr)
      rw [hp]
      simp only [List.getElem_set_self] at a0 a1 a2
      obtain rfl | rfl | rfl : r = 0 ∨ r = 1 ∨ r = 2 := by omega
      · rw [Nat.add_zero, a0]; rfl
      · rw [a1]; rfl
      · rw [a2]; rfl
    · rw [putAt_far _ _ _ _ (by simp; omega)]
      rw [List.getElem_set_ne (fun e => hk e.symm)] at a0 a1 a2
      obtain rfl | rfl | rfl : r = 0 ∨ r = 1 ∨ r = 2 := by omega
      · rw [Nat.add_zero, a0, b0]
      · rw [a1, b1]
      · rw [a2, b2]
  · rw [Array.getElem?_eq_none (by rw [putAt_size, hs]; omega), Array.getElem?_eq_none (by rw [hs']; omega)]
/-- One field was read: the reader, the fields; the worlds on the way. -/
def RetOne (b : Bool) (p : Option Nat) (st : Rd) (f : List Val) (k bo : Nat) (w : World) (e : Ending) (w' : World) : Prop :=
  e = .returned (.tuple #[]) ∧ RdP w' p (fldS b st) ∧ Blk w' bo (farr (f.set k (rdVal st))) ∧ ∃ w1 w2, Kept p w.heap.size w w1 ∧ Kept (some bo) w1.heap.size w1 w2 ∧ Kept p w2.heap.size w2 w'
theorem farr_row {f : List Val} {w : World} {g : Nat} (h : Blk w g (farr f)) {k : Nat} (hk : k < f.length) : w.cell? ⟨g, k * 3, none⟩ = some (.int .i64 f[k].kind) := h.cell (farr_get hk).1
set_option maxHeartbeats 2000000 in
set_option maxRecDepth 4000 in
theorem c_fields_one (b : Bool) (p : Option Nat) (st : Rd) (f : List Val) (k bp bn bo : Nat) (w : World) (hf : f.length = 8) (hk : k < 8) (hr : RdP w p st) (hp : Blk w bp #[ptr p]) (hn : Blk w bn #[.bool b]) (ho : Blk w bo (farr f))
    (h1 : ∀ g, p = some g → g < bp) (h2 : bp < bn) (h3 : bn < bo) :
    Calls Tryd.prog 58 #[.int .i64 k, .pointer (some ⟨bp, 0, none⟩), .pointer (some ⟨bo, 0, none⟩), .pointer (some ⟨bn, 0, none⟩)] w (RetOne b p st f k bo w) := by
  have d1 : p ≠ some bp := fun e => by have := h1 _ e; omega
  have d2 : p ≠ some bn := fun e => by have := h1 _ e; omega
  have d3 : p ≠ some bo := fun e => by have := h1 _ e; omega
  have c0 := hp.cell (i := 0) rfl
  have HF := Lib.hid hf
  have hfs : (f.set k (rdVal st)).length = 8 := by rw [List.length_set]; exact hf
  have HS := Lib.hid hfs
  have hkf : k < f.length := by omega
  have HX := Lib.hid (show (f.set k (rdVal st))[k]'(by rw [List.length_set]; exact hkf) = rdVal st from List.getElem_set_self ..)
  clear hfs hf
  cases b
  case true =>
    have Fz := Lib.hid (fldS_true st)
    go_enter Tryd.func58, Tryd.ntmps58
    go_wp2_with (fail)
    refine (c_cardwire_Value p st _ hr).mono ?_
    rintro e w1 ⟨rfl, hr1, hk1⟩
    have hp1 := hp.kept hk1 hp.lt d1
    have hn1 := hn.kept hk1 hn.lt d2
    have O1 := Lib.hid (ho.kept hk1 ho.lt d3)
    unfold Val.val
    go_wp2_with (with_reducible refine stS 53 (.tmp 8) (.tmp 7) rfl rfl ?_)
    refine Stop.mk (wpList_storeAt rfl _ _ _ rfl bo (k * 3) _ rfl rfl _ O1.out strV rfl (by rw [farr_size, HF.out]; simp; omega) (by simp [Value.oneCell']) ?_)
    intro w2 hb2 hk2
    rw [farr_put (by have := HF.out; omega)] at hb2
    have O2 := Lib.hid hb2
    have hz2 := hk2.size
    have cn := (hn1.kept hk2 hn1.lt (by simp; omega)).cell (i := 0) rfl
    have hr2 : RdP w2 p (rdVal' st) := hr1.kept hk2 (fun g h hg hh => by injection hh with hh; have := h1 g hg; omega)
    clear hb2
    go_wp2_with (fail)
    go_end0
    exact ⟨rfl, by rw [Fz.out]; exact hr2, O2.out, w1, w2, hk1, hk2, Kept.refl _ _ _⟩
  case false =>
    by_cases hv : (rdVal st).kind = 0
    · have Fz := Lib.hid (fldS_zero hv)
      have kv : ((rdVal st).kind == 0) = true := by simpa using hv
      clear hv
      go_enter Tryd.func58, Tryd.ntmps58
      go_wp2_with (fail)
      refine (c_cardwire_Value p st _ hr).mono ?_
      rintro e w1 ⟨rfl, hr1, hk1⟩
      have hp1 := hp.kept hk1 hp.lt d1
      have hn1 := hn.kept hk1 hn.lt d2
      have O1 := Lib.hid (ho.kept hk1 ho.lt d3)
      unfold Val.val
      go_wp2_with (with_reducible refine stS 53 (.tmp 8) (.tmp 7) rfl rfl ?_)
      refine Stop.mk (wpList_storeAt rfl _ _ _ rfl bo (k * 3) _ rfl rfl _ O1.out strV rfl (by rw [farr_size, HF.out]; simp; omega) (by simp [Value.oneCell']) ?_)
      intro w2 hb2 hk2
      rw [farr_put (by have := HF.out; omega)] at hb2
      have O2 := Lib.hid hb2
      have hz2 := hk2.size
      have cn := (hn1.kept hk2 hn1.lt (by simp; omega)).cell (i := 0) rfl
      have cp := (hp1.kept hk2 hp1.lt (by simp; omega)).cell (i := 0) rfl
      have cv := farr_row hb2 (k := k) (by rw [HS.out]; exact hk)
      rw [HX.out] at cv
      have hr2 : RdP w2 p (rdVal' st) := hr1.kept hk2 (fun g h hg hh => by injection hh with hh; have := h1 g hg; omega)
      clear hb2
      go_wp2_with (fail)
      refine (c_octet_Fail p (rdVal' st) 3 _ hr2).mono ?_
      rintro e w3 ⟨rfl, hr3, hk3⟩
      have O3 := Lib.hid (O2.out.kept hk3 O2.out.lt d3)
      go_wp2_with (fail)
      go_end0
      exact ⟨rfl, by rw [Fz.out]; exact hr3, O3.out, w1, w2, hk1, hk2, hk3⟩
    · have Fz := Lib.hid (fldS_pos (b := false) hv)
      have kv : ((rdVal st).kind == 0) = false := by simpa using hv
      clear hv
      go_enter Tryd.func58, Tryd.ntmps58
      go_wp2_with (fail)
      refine (c_cardwire_Value p st _ hr).mono ?_
      rintro e w1 ⟨rfl, hr1, hk1⟩
      have hp1 := hp.kept hk1 hp.lt d1
      have hn1 := hn.kept hk1 hn.lt d2
      have O1 := Lib.hid (ho.kept hk1 ho.lt d3)
      unfold Val.val
      go_wp2_with (with_reducible refine stS 53 (.tmp 8) (.tmp 7) rfl rfl ?_)
      refine Stop.mk (wpList_storeAt rfl _ _ _ rfl bo (k * 3) _ rfl rfl _ O1.out strV rfl (by rw [farr_size, HF.out]; simp; omega) (by simp [Value.oneCell']) ?_)
      intro w2 hb2 hk2
      rw [farr_put (by have := HF.out; omega)] at hb2
      have O2 := Lib.hid hb2
      have hz2 := hk2.size
      have cn := (hn1.kept hk2 hn1.lt (by simp; omega)).cell (i := 0) rfl
      have cp := (hp1.kept hk2 hp1.lt (by simp; omega)).cell (i := 0) rfl
      have cv := farr_row hb2 (k := k) (by rw [HS.out]; exact hk)
      rw [HX.out] at cv
      have hr2 : RdP w2 p (rdVal' st) := hr1.kept hk2 (fun g h hg hh => by injection hh with hh; have := h1 g hg; omega)
      clear hb2
      go_wp2_with (fail)
      go_end0
      exact ⟨rfl, by rw [Fz.out]; exact hr2, O2.out, w1, w2, hk1, hk2, Kept.refl _ _ _⟩
end Go.Proofs.YtldoedmclfbgpaaDoor
namespace Go.Proofs.YtldoedmclfbgpaaDoor
open Go.RowKit

theorem Blk.alloc {w : World} {g : Nat} {cs : Array Value} (h : Blk w g cs) (o : Obj) : Blk (w.alloc o) g cs := h.below ((Below.refl _ _).alloc (Nat.le_refl _) o) h.lt
theorem farr_one (f : List Val) : ∀ v ∈ (farr f).toList, v.oneCell' = true := by
  intro v hv
  unfold farr at hv
  simp only [List.mem_flatMap] at hv
  obtain ⟨x, -, hx⟩ := hv
  simp only [Val.cells, List.mem_cons, List.not_mem_nil, or_false] at hx
  rcases hx with rfl | rfl | rfl <;> rfl
theorem farr_zero : farr f8z = #[.int .i64 0, .int .i64 0, .string (str []), .int .i64 0, .int .i64 0, .string (str []), .int .i64 0, .int .i64 0, .string (str []), .int .i64 0, .int .i64 0, .string (str []), .int .i64 0, .int .i64 0, .string (str []), .int .i64 0, .int .i64 0, .string (str []), .int .i64 0, .int .i64 0, .string (str []), .int .i64 0, .int .i64 0, .string (str [])] := by unfold farr; rfl
theorem farr_ones (f : List Val) : ((farr f).all fun x => x.oneCell') = true := by
  rw [Array.all_eq_true]
  exact fun i hi => farr_one f _ (Array.getElem_mem_toList hi)
/-- What stands when k of the mask's fields have been read. -/
structure FldAt (w : World) (p : Option Nat) (b : Bool) (S : Rd) (F : List Val) (m : Nat) (A7 : Option Addr) (c7 : Nat) (k : Nat) (st : Rd) (f : List Val) (wr : World) : Prop where
  len : f.length = 8
  eS : rdFs' b ((bitsTo m 8).drop k) st = S
  eF : rdFv b ((bitsTo m 8).drop k) st f = F
  rd : RdP wr p st
  P : Blk wr w.heap.size #[ptr p]
  N : Blk wr (w.heap.size + 1) #[.bool b]
  R : ∃ z, z.size = 24 ∧ Blk wr (w.heap.size + 2) z
  O : Blk wr (w.heap.size + 3) (farr f)
  own : wr.ownsRow (w.heap.size + 4) 3 1 (.slice A7 (idx8 m).length c7) (idx8 m).length ((idx8 m).flatMap ic)
  kept : Kept p w.heap.size w wr
theorem FldAt.next {w : World} {p : Option Nat} {b : Bool} {S : Rd} {F : List Val} {m : Nat} {A7 : Option Addr} {c7 k : Nat} {st : Rd} {f : List Val} {wr w' : World} {e : Ending} (hp : ∀ g, p = some g → g < w.heap.size) (h : FldAt w p b S F m A7 c7 k st f wr)
    {n : Nat} (hk : k < (bitsTo m 8).length) (hn : n = (bitsTo m 8)[k]) (h1 : RetOne b p st f n (w.heap.size + 3) wr e w') : FldAt w p b S F m A7 c7 (k + 1) (fldS b st) (f.set n (rdVal st)) w' := by
  obtain ⟨-, hr, ho, w1, w2, k1, k2, k3⟩ := h1
  have hS := h.eS
  have hF := h.eF
  rw [List.drop_eq_getElem_cons hk, ← hn] at hS hF
  have ne : ∀ g, w.heap.size ≤ g → p ≠ some g := fun g hg e => by have := hp g e; omega
  obtain ⟨z, hz, hR⟩ := h.R
  have z1 := k1.size
  have z2 := k2.size
  have z3 := k3.size
  have zw := h.kept.size
  have tr : ∀ {g : Nat} {cs : Array Value}, Blk wr g cs → w.heap.size ≤ g → g ≠ w.heap.size + 3 → Blk w' g cs := fun hb hg hne => by
    have b1 := hb.kept k1 hb.lt (ne _ hg)
    have b2 := b1.kept k2 b1.lt (fun e => hne (by injection e with e; exact e.symm))
    exact b2.kept k3 b2.lt (ne _ hg)
  refine ⟨by rw [List.length_set]; exact h.len, hS, hF, hr, tr h.P (Nat.le_refl _) (by omega), tr h.N (by omega) (by omega), ⟨z, hz, tr hR (by omega) (by omega)⟩, ho, ?_, ?_⟩
  · have o1 := own_kept h.own k1 (fun g hg => by have := hp g hg; omega)
    have o2 := own_kept o1 k2 (fun g hg => by injection hg with hg; omega)
    exact own_kept o2 k3 (fun g hg => by have := hp g hg; omega)
  · exact ((h.kept.trans (k1.mono zw)).trans (k2.one (by omega) (.inl (by omega)))).trans (k3.mono (by omega))
set_option maxHeartbeats 4000000 in
set_option maxRecDepth 4000 in
theorem c_cardwire_fields (p : Option Nat) (st : Rd) (m : Nat) (b : Bool) (w : World) (hm : m < 4294967296) (hT : Tab w) (hr : RdP w p st) :
    Calls Tryd.prog 42 #[ptr p, .int .u32 m, .bool b] w (RetP p (rdFs' b (bitsTo m 8) st) w (.agg (farr (rdFv b (bitsTo m 8) st f8z)))) := by
  have hpl := fun g (hg : p = some g) => hr.lt hg
  obtain ⟨S, hS⟩ : ∃ S, S = rdFs' b (bitsTo m 8) st := ⟨_, rfl⟩
  obtain ⟨F, hF⟩ : ∃ F, F = rdFv b (bitsTo m 8) st f8z := ⟨_, rfl⟩
  rw [← hS, ← hF]
  have hS0 := Lib.hid hS
  have hF0 := Lib.hid hF
  have IB := Lib.hid (idx8_bits m)
  have hl8 := idx8_len m
  clear hS hF
  go_enter Tryd.func42, Tryd.ntmps42
  go_wp2_with (go_at_call 60; refine (c_mask_Fields m hm _ (hT.below (by repeat (first | exact Below.refl _ _ | refine Below.drew ?_ | refine Below.alloc ?_ (by first | omega | (simp; done) | (simp; omega)) _ | refine Below.setCell ?_ (by first | omega | (simp; done) | (simp; omega)) _ | refine Below.trans ?_ (Below.mono (by assumption) (by first | omega | (simp; done) | (simp; omega))))))).mono ?_; rintro e w7 ⟨v7, rfl, own7, hb7⟩; have hbw : Below w.heap.size w w7 := (by repeat (first | exact Below.refl _ _ | refine Below.drew ?_ | refine Below.alloc ?_ (by first | omega | (simp; done) | (simp; omega)) _ | refine Below.setCell ?_ (by first | omega | (simp; done) | (simp; omega)) _ | refine Below.trans ?_ (Below.mono (by assumption) (by first | omega | (simp; done) | (simp; omega))))); have P7 := Lib.hid (((((Blk.new w _ _).alloc _).alloc _).alloc _).below hb7 (by simp; omega)); have N7 := Lib.hid ((((Blk.new _ _ _).alloc _).alloc _).below hb7 (by simp)); have R7 := Lib.hid (((Blk.new _ _ _).alloc _).below hb7 (by simp)); have O7 := Lib.hid ((Blk.new _ _ _).below hb7 (by simp)); have OW := Lib.hid own7; clear own7; obtain ⟨A7, c7, rfl, -⟩ := own_form OW.out)
  simp only [World.size_alloc] at OW
  go_loopw [10, 15] (fun _ i wr => ∃ (k : Nat) (st' : Rd) (f' : List Val), k ≤ (idx8 m).length ∧ i = .int .i64 k ∧ FldAt w p b S F m A7 c7 k st' f' wr)
    (fun _ i _ => (idx8 m).length - (intOf i).toNat)
  case atStart => exact ⟨0, st, f8z, by omega, rfl, rfl, by rw [List.drop_zero]; exact hS0.out.symm, by rw [List.drop_zero]; exact hF0.out.symm, hr.up hbw hpl, P7.out, by simpa using N7.out, ⟨_, rfl, by simpa using R7.out⟩, by rw [farr_zero]; simpa using O7.out, OW.out, .of_below hbw⟩
  case round =>
    clear P7 N7 R7 O7 OW hbw hb7
    obtain ⟨k, st', f', hk, rfl, I⟩ := hrel
    have IH := Lib.hid I
    have hwz := I.kept.size
    clear I
    by_cases hlt : k < (idx8 m).length
    · obtain ⟨A', c', he, in'⟩ := In.of_own ic_len IH.out.own (by omega)
      simp only [Value.slice.injEq, true_and] at he
      obtain ⟨rfl, rfl⟩ := he
      obtain ⟨bl, off, rfl, hbb, hrow⟩ := in'.at hlt
      have hc0 := hrow k hlt 0 _ rfl
      have hlt' : k < (bitsTo m 8).length := by rw [IB.out] at hlt; simpa using hlt
      obtain ⟨n, hn⟩ : ∃ n, n = (bitsTo m 8)[k] := ⟨_, rfl⟩
      have hn8 : n < 8 := by rw [hn]; exact bitsTo_bd (List.getElem_mem hlt')
      have hin : (idx8 m)[k] = (n : Int) := by simp [IB.out, hn]
      rw [hin] at hc0
      simp only [Nat.mul_one, Nat.add_zero] at hc0
      have HN := Lib.hid hn
      clear hn hin hrow in'
      go_wp2_with (fail)
      refine (c_fields_one b p st' f' n w.heap.size (w.heap.size + 1) (w.heap.size + 3) _ IH.out.len hn8 IH.out.rd IH.out.P IH.out.N IH.out.O hpl (by omega) (by omega)).mono ?_
      intro e w8 hone
      have I8 := Lib.hid (IH.out.next hpl hlt' HN.out hone)
      obtain ⟨rfl, -⟩ := hone
      go_wp2_with (fail)
      go_roundw
      case rel => exact ⟨k + 1, _, _, by omega, by go_num, I8.out⟩
      case measure => simp [intOf]; omega
    · have hge : (bitsTo m 8).length ≤ k := by rw [IB.out] at hlt; simpa using hlt
      obtain ⟨z, hz, hR⟩ := IH.out.R
      have Rz := Lib.hid hR
      have Zz := Lib.hid hz
      clear hR hz
      go_wp2_with (with_reducible refine stop_load 54 (.tmp 7) rfl rfl ?_)
      refine Stop.mk (wpList_loadB rfl _ _ rfl (w.heap.size + 3) rfl (farr f') IH.out.O strF (by rw [farr_size, IH.out.len]) ?_)
      go_wp2_with (with_reducible refine stS 54 (.tmp 6) (.tmp 23) rfl rfl ?_)
      refine Stop.mk (wsB rfl _ _ _ rfl (w.heap.size + 2) _ rfl rfl _ Rz.out strF (by rw [farr_size, IH.out.len]) (by rw [farr_size, IH.out.len, Zz.out]) (farr_ones f') ?_)
      intro w9 hb9 hk9
      have B9 := Lib.hid hb9
      clear hb9
      go_wp2_with (fail)
      have hS := IH.out.eS
      have hF := IH.out.eF
      rw [List.drop_of_length_le hge] at hS hF
      refine bodyPost_ret (results_B rfl rfl B9.out strF (by rw [farr_size, IH.out.len])) rfl ⟨?_, ?_, ?_⟩
      · rw [← hF]; rfl
      · rw [← hS]; exact IH.out.rd.own (b := w.heap.size + 2) hk9 (fun g hg => by have := hpl g hg; omega)
      · exact IH.out.kept.trans (hk9.one hwz (.inl (by omega)))
end Go.Proofs.YtldoedmclfbgpaaDoor
namespace Go.Proofs.YtldoedmclfbgpaaDoor
open Go.RowKit

theorem putAt_app (hd tl : List Value) (j : Nat) (vs : List Value) (h : j + vs.length ≤ tl.length) : putAt (hd ++ tl).toArray (hd.length + j) vs = (hd ++ (putAt tl.toArray j vs).toList).toArray := by
  apply Array.ext_getElem?
  intro i
  have e : (hd ++ (putAt tl.toArray j vs).toList).toArray[i]? = (hd ++ (putAt tl.toArray j vs).toList)[i]? := by simp only [List.getElem?_toArray]
  rw [e]
  clear e
  by_cases hi : i < hd.length
  · rw [putAt_far _ _ _ _ (.inl (by omega)), List.getElem?_append_left hi, List.getElem?_toArray, List.getElem?_append_left hi]
  · obtain ⟨q, rfl⟩ : ∃ q, i = hd.length + q := ⟨i - hd.length, by omega⟩
    rw [List.getElem?_append_right (by omega), Nat.add_sub_cancel_left, Array.getElem?_toList]
    by_cases h1 : q < j ∨ j + vs.length ≤ q
    · rw [putAt_far _ _ _ _ (by omega), putAt_far _ _ _ _ h1, List.getElem?_toArray, List.getElem?_append_right (by omega), Nat.add_sub_cancel_left, List.getElem?_toArray]
    · obtain ⟨r, rfl⟩ : ∃ r, q = j + r := ⟨q - j, by omega⟩
      rw [← Nat.add_assoc, putAt_in _ _ _ _ (by simp; omega) (by omega), putAt_in _ _ _ _ (by simp; omega) (by omega)]
theorem farr_list (f : List Val) : (farr f).toList = f.flatMap Val.cells := by unfold farr; rfl
theorem farr_all {f g : List Val} (h : f.length = g.length) : putAt (farr f) 0 (farr g).toList = farr g := by
  have h1 := farr_size f
  have h2 := farr_size g
  apply Array.ext_getElem?
  intro i
  by_cases hi : i < g.length * 3
  · have := putAt_in (farr g).toList (farr f) 0 i (by rw [Array.length_toList]; omega) (by rw [Array.length_toList]; omega)
    rw [Nat.zero_add] at this
    rw [this, Array.getElem?_toList]
  · rw [Array.getElem?_eq_none (by rw [putAt_size]; omega), Array.getElem?_eq_none (by omega)]
theorem flat_size (f : List Val) : (f.flatMap Val.cells).length = f.length * 3 := flat_length val_len f
section
variable {a b : Int} {l m : Nat} {f g : List Val}
theorem Card.put0 (v : Int) : (Card.arr ⟨a, b, l, f⟩).setIfInBounds 0 (.int .i64 v) = Card.arr ⟨v, b, l, f⟩ := by unfold Card.arr; simp
theorem Card.put1 (v : Int) : (Card.arr ⟨a, b, l, f⟩).setIfInBounds 1 (.int .i64 v) = Card.arr ⟨a, v, l, f⟩ := by unfold Card.arr; simp
theorem Card.put2 (v : Nat) : (Card.arr ⟨a, b, l, f⟩).setIfInBounds 2 (.int .u32 v) = Card.arr ⟨a, b, v, f⟩ := by unfold Card.arr; simp
theorem Card.putF (h : f.length = g.length) : putAt (Card.arr ⟨a, b, l, f⟩) 3 (farr g).toList = Card.arr ⟨a, b, l, g⟩ := by
  have e := putAt_app [.int .i64 a, .int .i64 b, .int .u32 l] (f.flatMap Val.cells) 0 (farr g).toList (by rw [farr_list, flat_size, flat_size]; omega)
  have e2 := farr_all h
  unfold farr at e2
  unfold Card.arr
  refine e.trans ?_
  unfold farr
  rw [e2]
theorem Card.putV {k : Nat} (h : k < f.length) (x : Val) : putAt (Card.arr ⟨a, b, l, f⟩) (3 + k * 3) [.int .i64 x.kind, .int .i64 x.n, .string (str x.s)] = Card.arr ⟨a, b, l, f.set k x⟩ := by
  have e := putAt_app [.int .i64 a, .int .i64 b, .int .u32 l] (f.flatMap Val.cells) (k * 3) [.int .i64 x.kind, .int .i64 x.n, .string (str x.s)] (by rw [flat_size]; simp; omega)
  have e2 := farr_put h x
  unfold farr at e2
  unfold Card.arr
  refine e.trans ?_
  rw [e2]
theorem Patch.put0 (v : Nat) : (Patch.arr ⟨m, l, f⟩).setIfInBounds 0 (.int .u32 v) = Patch.arr ⟨v, l, f⟩ := by unfold Patch.arr; simp
theorem Patch.put1 (v : Nat) : (Patch.arr ⟨m, l, f⟩).setIfInBounds 1 (.int .u32 v) = Patch.arr ⟨m, v, f⟩ := by unfold Patch.arr; simp
theorem Patch.putF (h : f.length = g.length) : putAt (Patch.arr ⟨m, l, f⟩) 2 (farr g).toList = Patch.arr ⟨m, l, g⟩ := by
  have e := putAt_app [.int .u32 m, .int .u32 l] (f.flatMap Val.cells) 0 (farr g).toList (by rw [farr_list, flat_size, flat_size]; omega)
  have e2 := farr_all h
  unfold farr at e2
  unfold Patch.arr
  refine e.trans ?_
  unfold farr
  rw [e2]
theorem Patch.putV {k : Nat} (h : k < f.length) (x : Val) : putAt (Patch.arr ⟨m, l, f⟩) (2 + k * 3) [.int .i64 x.kind, .int .i64 x.n, .string (str x.s)] = Patch.arr ⟨m, l, f.set k x⟩ := by
  have e := putAt_app [.int .u32 m, .int .u32 l] (f.flatMap Val.cells) (k * 3) [.int .i64 x.kind, .int .i64 x.n, .string (str x.s)] (by rw [flat_size]; simp; omega)
  have e2 := farr_put h x
  unfold farr at e2
  unfold Patch.arr
  refine e.trans ?_
  rw [e2]
end
theorem Card.arr_one (c : Card) : ∀ v ∈ c.arr.toList, v.oneCell' = true := by
  intro v hv
  unfold Card.arr at hv
  rw [List.mem_append] at hv
  rcases hv with hv | hv
  · simp only [List.mem_cons, List.not_mem_nil, or_false] at hv
    rcases hv with rfl | rfl | rfl <;> rfl
  · exact farr_one c.f v (by rw [farr_list]; exact hv)
theorem Patch.arr_one (c : Patch) : ∀ v ∈ c.arr.toList, v.oneCell' = true := by
  intro v hv
  unfold Patch.arr at hv
  rw [List.mem_append] at hv
  rcases hv with hv | hv
  · simp only [List.mem_cons, List.not_mem_nil, or_false] at hv
    rcases hv with rfl | rfl <;> rfl
  · exact farr_one c.f v (by rw [farr_list]; exact hv)
theorem Card.arr_ones (c : Card) : (c.arr.all fun x => x.oneCell') = true := by
  rw [Array.all_eq_true]
  exact fun i hi => Card.arr_one c _ (Array.getElem_mem_toList hi)
theorem Patch.arr_ones (c : Patch) : (c.arr.all fun x => x.oneCell') = true := by
  rw [Array.all_eq_true]
  exact fun i hi => Patch.arr_one c _ (Array.getElem_mem_toList hi)
/-- The table's block is no reader's. -/
theorem RdP.tab {w : World} {p : Option Nat} {st : Rd} (h : RdP w p st) (hT : Tab w) : p ≠ some 0 := by
  rintro rfl
  obtain ⟨A, c, B, pos, ha, -⟩ := h.at
  have h0 := ha.1.cell (i := 0) rfl
  have h1 := hT 0 (by decide)
  rw [h1] at h0
  simp at h0
end Go.Proofs.YtldoedmclfbgpaaDoor
namespace Go.Proofs.YtldoedmclfbgpaaDoor
open Go.RowKit

set_option maxHeartbeats 4000000 in
set_option maxRecDepth 4000 in
theorem c_cardwire_Card (p : Option Nat) (st : Rd) (w : World) (hT : Tab w) (hr : RdP w p st) : Calls Tryd.prog 20 #[ptr p] w (RetP p (rdCard' st) w (.agg (rdCard st).arr)) := by
  have hpl := fun g (hg : p = some g) => hr.lt hg
  have ht := hr.tab hT
  have hdef := rdCard'_def st
  have hM : (rdN (cdC st) 255) = (cdM st : Int) := by have := rdN_bd (cdC st) 255; unfold cdM; omega
  have hM2 : cdM st < 4294967296 := by have := rdN_bd (cdC st) 255; omega
  have hb255 := rdN_bd (cdC st) 255
  have hfl := cdF_len st
  have HFL := Lib.hid hfl
  have HM := Lib.hid hM
  clear hM hfl
  obtain ⟨S, hS⟩ : ∃ S, S = rdCard' st := ⟨_, rfl⟩
  obtain ⟨L, hL⟩ : ∃ L, L = (rdN (cdB st) 65535).toNat := ⟨_, rfl⟩
  have HL := Lib.hid hL
  clear hL
  have HS := Lib.hid hS
  rw [← hS] at hdef
  have HD := Lib.hid hdef
  clear hS hdef
  cases he : (S.e != 0)
  all_goals
    rw [← HS.out]
    go_enter Tryd.func20, Tryd.ntmps20
    go_wp2_with (fail)
    refine (c_cardwire_above p st 1073741823 _ (hr.below ((Below.refl _ _).alloc (Nat.le_refl _) _))).mono ?_
    rintro e w1 ⟨rfl, hr1, hk1⟩
    have hz1 := hk1.size
    simp only [World.size_alloc] at hz1
    have kw1 : Kept p w.heap.size w w1 := (by repeat (first | exact Kept.refl _ _ _ | refine Kept.drew ?_ | refine Kept.alloc ?_ (by first | omega | (simp; done) | (simp; omega)) _ | refine Kept.setCell ?_ (by first | (right; rfl) | (left; first | omega | (simp; done) | (simp; omega))) _ | refine Kept.then_kept ?_ (by assumption) (by first | omega | (simp; done) | (simp; omega)) | refine Kept.then_below ?_ (by assumption) (by first | omega | (simp; done) | (simp; omega)) | refine Kept.low ?_ (by assumption)))
    have R1 := Lib.hid ((Blk.new w _ _).kept hk1 (by simp) (ne_of_lt hpl (Nat.le_refl _)))
    go_wp2_with (with_reducible refine stS 56 (.tmp 3) (.tmp 6) rfl rfl ?_)
    refine Stop.mk (wsB rfl _ _ _ rfl w1.heap.size _ rfl rfl _ (Blk.new _ _ _) strC rfl rfl (by simp [Value.oneCell']) ?_)
    intro w2 hb2 hk2
    have B2 := Lib.hid (show Blk w2 w1.heap.size (Card.arr ⟨rdN st 1073741823, 0, 0, f8z⟩) by unfold Card.arr; exact hb2)
    clear hb2
    have R2 := Lib.hid ((R1.out.alloc _).kept hk2 (by simp; omega) (by simp; omega))
    have hz2 := hk2.size
    simp only [World.size_alloc] at hz2
    have kw2 : Kept p w.heap.size w w2 := (kw1.alloc (by omega) _).trans (hk2.one (by simp; omega) (.inl (by omega)))
    have hr2 : RdP w2 p (cdA st) := (hr1.below ((Below.refl _ _).alloc (Nat.le_refl _) _)).own (b := w1.heap.size) hk2 (fun g hg => by have := hpl g hg; omega)
    go_wp2_with (fail)
    refine (c_cardwire_above p (cdA st) 1099511627776 _ hr2).mono ?_
    rintro e w3 ⟨rfl, hr3, hk3⟩
    have hz3 := hk3.size
    have kw3 : Kept p w.heap.size w w3 := kw2.trans (hk3.mono (by omega))
    have B3 := B2.out.kept hk3 (by omega) (ne_of_lt hpl (by omega))
    have R3 := Lib.hid (R2.out.kept hk3 (by omega) (ne_of_lt hpl (by omega)))
    have q31 := B3.cell (Card.arr_head _).2.1
    have f31 := B3.frozen 1
    have B3' := Lib.hid B3
    clear B3
    go_wp2_with (fail)
    have B4 := Lib.hid (show Blk (w3.setCell ⟨w1.heap.size, 1, none⟩ (.int .i64 (rdN (cdA st) 1099511627776))) w1.heap.size (Card.arr ⟨rdN st 1073741823, rdN (cdA st) 1099511627776, 0, f8z⟩) by have := B3'.out.store 1 (.int .i64 (rdN (cdA st) 1099511627776)); rw [Card.put1] at this; exact this)
    have R4 := Lib.hid (R3.out.far (q := ⟨w1.heap.size, 1, none⟩) (by simp; omega) (.int .i64 (rdN (cdA st) 1099511627776)))
    have hr4 : RdP (w3.setCell ⟨w1.heap.size, 1, none⟩ (.int .i64 (rdN (cdA st) 1099511627776))) p (cdB st) := RdP.own (b := w1.heap.size) hr3 (by repeat (first | exact Kept.refl _ _ _ | refine Kept.drew ?_ | refine Kept.alloc ?_ (by first | omega | (simp; done) | (simp; omega)) _ | refine Kept.setCell ?_ (by first | (right; rfl) | (left; first | omega | (simp; done) | (simp; omega))) _ | refine Kept.then_kept ?_ (by assumption) (by first | omega | (simp; done) | (simp; omega)) | refine Kept.then_below ?_ (by assumption) (by first | omega | (simp; done) | (simp; omega)) | refine Kept.low ?_ (by assumption))) (fun g hg => by have := hpl g hg; omega)
    have kw4 : Kept p w.heap.size w (w3.setCell ⟨w1.heap.size, 1, none⟩ (.int .i64 (rdN (cdA st) 1099511627776))) := kw3.setCell (.inl (by simp; omega)) _
    obtain ⟨w4, hw4⟩ : ∃ w4, w4 = w3.setCell ⟨w1.heap.size, 1, none⟩ (.int .i64 (rdN (cdA st) 1099511627776)) := ⟨_, rfl⟩
    have hz4 : w4.heap.size = w3.heap.size := by rw [hw4]; simp [World.setCell]
    rw [← hw4] at B4 R4 hr4 kw4 ⊢
    clear hw4 q31 f31
    refine (c_cardwire_labels p (cdB st) _ hr4).mono ?_
    rintro e w5 ⟨rfl, hr5, hk5⟩
    rw [← HL.out]
    have hz5 := hk5.size
    have kw5 : Kept p w.heap.size w w5 := kw4.trans (hk5.mono (by omega))
    have B5 := B4.out.kept hk5 (by omega) (ne_of_lt hpl (by omega))
    have R5 := Lib.hid (R4.out.kept hk5 (by omega) (ne_of_lt hpl (by omega)))
    have q52 := B5.cell (Card.arr_head _).2.2
    have f52 := B5.frozen 2
    have B5' := Lib.hid B5
    clear B5
    go_wp2_with (fail)
    have B6 := Lib.hid (show Blk (w5.setCell ⟨w1.heap.size, 2, none⟩ (.int .u32 L)) w1.heap.size (Card.arr ⟨rdN st 1073741823, rdN (cdA st) 1099511627776, L, f8z⟩) by have := B5'.out.store 2 (.int .u32 L); rw [Card.put2] at this; exact this)
    have R6 := Lib.hid (R5.out.far (q := ⟨w1.heap.size, 2, none⟩) (by simp; omega) (.int .u32 L))
    have hr6 : RdP (w5.setCell ⟨w1.heap.size, 2, none⟩ (.int .u32 L)) p (cdC st) := RdP.own (b := w1.heap.size) hr5 (by repeat (first | exact Kept.refl _ _ _ | refine Kept.drew ?_ | refine Kept.alloc ?_ (by first | omega | (simp; done) | (simp; omega)) _ | refine Kept.setCell ?_ (by first | (right; rfl) | (left; first | omega | (simp; done) | (simp; omega))) _ | refine Kept.then_kept ?_ (by assumption) (by first | omega | (simp; done) | (simp; omega)) | refine Kept.then_below ?_ (by assumption) (by first | omega | (simp; done) | (simp; omega)) | refine Kept.low ?_ (by assumption))) (fun g hg => by have := hpl g hg; omega)
    have kw6 : Kept p w.heap.size w (w5.setCell ⟨w1.heap.size, 2, none⟩ (.int .u32 L)) := kw5.setCell (.inl (by simp; omega)) _
    obtain ⟨w6, hw6⟩ : ∃ w6, w6 = w5.setCell ⟨w1.heap.size, 2, none⟩ (.int .u32 L) := ⟨_, rfl⟩
    have hz6 : w6.heap.size = w5.heap.size := by rw [hw6]; simp [World.setCell]
    rw [← hw6] at B6 R6 hr6 kw6 ⊢
    clear hw6 q52 f52
    refine (c_octet_RNum p (cdC st) 255 _ hr6).mono ?_
    rintro e w7 ⟨rfl, hr7, hk7⟩
    have hz7 := hk7.size
    have kw7 : Kept p w.heap.size w w7 := kw6.trans (hk7.mono (by omega))
    have B7 := Lib.hid (B6.out.kept hk7 (by omega) (ne_of_lt hpl (by omega)))
    have R7 := Lib.hid (R6.out.kept hk7 (by omega) (ne_of_lt hpl (by omega)))
    go_wp2_with (fail)
    rw [HM.out]
    refine (c_cardwire_fields p (cdD st) (cdM st) false _ hM2 (hT.kept kw7 ht) hr7).mono ?_
    rintro e w8 ⟨rfl, hr8, hk8⟩
    have hz8 := hk8.size
    rw [← HD.out] at hr8
    have kw8 : Kept p w.heap.size w w8 := kw7.trans (hk8.mono (by omega))
    have B8 := Lib.hid (B7.out.kept hk8 (by omega) (ne_of_lt hpl (by omega)))
    have R8 := Lib.hid (R7.out.kept hk8 (by omega) (ne_of_lt hpl (by omega)))
    go_wp2_with (with_reducible refine stS 54 (.tmp 18) (.tmp 17) rfl rfl ?_)
    refine Stop.mk (wpList_storeAt rfl _ _ _ rfl w1.heap.size 3 (farr (cdF st)) rfl rfl _ B8.out strF (by rw [farr_size, HFL.out]) (by rw [Card.arr_size, farr_size, HFL.out]; simp) (farr_one _) ?_)
    intro w9 hb9 hk9
    rw [Card.putF (by rw [HFL.out]; rfl)] at hb9
    have B9 := Lib.hid hb9
    clear hb9
    have hz9 := hk9.size
    have kw9 : Kept p w.heap.size w w9 := kw8.trans (hk9.one (by omega) (.inl (by omega)))
    have R9 := Lib.hid (R8.out.kept hk9 (by omega) (by simp; omega))
    have hr9 : RdP w9 p S := hr8.own (b := w1.heap.size) hk9 (fun g hg => by have := hpl g hg; omega)
    go_wp2_with (fail)
    refine (c_octet_Err p S _ hr9).mono ?_
    rintro e w10 ⟨rfl, hr10, hk10⟩
    have hz10 := hk10.size
    have kw10 : Kept p w.heap.size w w10 := kw9.trans (hk10.mono (by omega))
    have B10 := Lib.hid (B9.out.kept hk10 (by omega) (ne_of_lt hpl (by omega)))
    have R10 := Lib.hid (R9.out.kept hk10 (by omega) (ne_of_lt hpl (by omega)))
    clear B2 B3' B4 B5' B6 B7 B8 B9 R1 R2 R3 R4 R5 R6 R7 R8 R9 hk1 hk2 hk3 hk5 hk7 hk8 hk9 hk10 hr1 hr2 hr3 hr4 hr5 hr6 hr7 hr8 hr9 kw1 kw2 kw3 kw4 kw5 kw6 kw7 kw8 kw9
  · go_wp2_with (with_reducible refine stop_load 56 (.tmp 3) rfl rfl ?_)
    refine Stop.mk (wpList_loadB rfl _ _ rfl w1.heap.size rfl _ B10.out strC (by rw [Card.arr_size, HFL.out]) ?_)
    go_wp2_with (with_reducible refine stS 56 (.tmp 2) (.tmp 23) rfl rfl ?_)
    refine Stop.mk (wsB rfl _ _ _ rfl w.heap.size _ rfl rfl _ R10.out strC (by rw [Card.arr_size, HFL.out]) (by rw [Card.arr_size, HFL.out]; rfl) (Card.arr_ones _) ?_)
    intro w11 hb11 hk11
    have hE : S.e = 0 := by simpa using he
    have hv : rdCard st = cdCard st := rdCard_ok (by rw [← HS.out]; exact hE)
    have B11 := Lib.hid hb11
    clear hb11
    go_wp2_with (fail)
    exact bodyPost_ret (results_B rfl rfl B11.out strC (by rw [Card.arr_size, HFL.out])) rfl ⟨by rw [hv, HL.out]; rfl, hr10.own (b := w.heap.size) hk11 hpl, kw10.trans (hk11.one (by omega) (.inl (Nat.le_refl _)))⟩
  · go_wp2_with (with_reducible refine stS 56 (.tmp 2) (.tmp 22) rfl rfl ?_)
    refine Stop.mk (wsB rfl _ _ _ rfl w.heap.size _ rfl rfl _ R10.out strC rfl rfl (by simp [Value.oneCell']) ?_)
    intro w11 hb11 hk11
    have hE : S.e ≠ 0 := by simpa using he
    have hv : rdCard st = cz := rdCard_bad (by rw [← HS.out]; exact hE)
    have B11 := Lib.hid (show Blk w11 w.heap.size cz.arr by unfold Card.arr; exact hb11)
    clear hb11
    go_wp2_with (fail)
    exact bodyPost_ret (results_B rfl rfl B11.out strC (by unfold Card.arr; rfl)) rfl ⟨by rw [hv], hr10.own (b := w.heap.size) hk11 hpl, kw10.trans (hk11.one (by omega) (.inl (Nat.le_refl _)))⟩
end Go.Proofs.YtldoedmclfbgpaaDoor
namespace Go.Proofs.YtldoedmclfbgpaaDoor
open Go.RowKit

theorem EnvR.belowQ {p : Nat} {S : Rd} {w w1 w2 : World} {B : Nat} {bl : List (Nat × Array Value)} (h : EnvR p S w w1 bl) (hB : w.heap.size ≤ B) (hl : ∀ y ∈ bl, y.1 < B) (k : Below B w1 w2) : EnvR p S w w2 bl := by
  refine ⟨h.low, h.kept.trans (.of_below (k.mono hB)), ⟨h.rd.1.below k (Nat.lt_of_lt_of_le h.low hB), h.rd.2⟩, ?_⟩
  have h2 := h.blks
  clear h
  induction bl with
  | nil => trivial
  | cons y r ih =>
    obtain ⟨⟨a1, a2, a3⟩, a4⟩ := h2
    exact ⟨⟨a1.below k (hl y (List.mem_cons_self ..)), a2, a3⟩, ih (fun z hz => hl z (List.mem_cons_of_mem _ hz)) a4⟩
theorem EnvR.drop {p : Nat} {S : Rd} {w w1 : World} {x : Nat × Array Value} {bl : List (Nat × Array Value)} (h : EnvR p S w w1 (x :: bl)) : EnvR p S w w1 bl := ⟨h.low, h.kept, h.rd, h.blks.2⟩
/-- What an operation hands back, as far as it is told. -/
def VQ (l : List (Option Value)) (j : Nat) (v : Value) : Prop := match l[j]? with | some (some x) => v = x | _ => True
structure KQ (p : Nat) (S S' : Rd) (w : World) (G B f : Nat) (X : Array Value) (bl : List (Nat × Array Value)) (t : TypeId) (n : Nat) (v0 : Value) (len : Nat) (xs nn : List Value) (R : World → Prop) (L : Nat → Bool) (u : Nat → Value) (w1 : World) : Prop where
  c7 : L 7 = true → L 5 = true
  c5 : L 5 = true → L 4 = true ∧ L 1 = true
  c4 : L 4 = true → L 3 = true
  hB : B ≤ w1.heap.size
  hw : w.heap.size ≤ B
  hG : G < B
  hbl : ∀ y ∈ bl, y.1 < B
  env : EnvR p (if L 3 = true then S' else S) w w1 ((G, if L 7 = true then X.setIfInBounds f (u 5) else X) :: bl)
  own : if L 5 = true then w1.ownsRow B t n (u 5) (len + 1) (xs ++ nn) else w1.ownsRow B t n v0 len xs
  lit : L 4 = true → L 5 = false → ∃ g, u 4 = .slice (some ⟨g, 0, none⟩) 1 1 ∧ Src w1 (some ⟨g, 0, none⟩) 1 n nn
  keep : R w1
section
variable {p : Nat} {S S' : Rd} {w w1 w2 : World} {G B f : Nat} {X : Array Value} {bl : List (Nat × Array Value)} {t : TypeId} {n : Nat} {v0 : Value} {len : Nat} {xs nn : List Value} {R : World → Prop} {L : Nat → Bool} {u : Nat → Value} {v : Value} {j : Nat}
theorem KQ.start (hB : B ≤ w1.heap.size) (hw : w.heap.size ≤ B) (hG : G < B) (hbl : ∀ y ∈ bl, y.1 < B) (e : EnvR p S w w1 ((G, X) :: bl)) (o : w1.ownsRow B t n v0 len xs) (hR : R w1) : KQ p S S' w G B f X bl t n v0 len xs nn R (fun _ => false) u w1 :=
  ⟨(fun h => by cases h), (fun h => by cases h), (fun h => by cases h), hB, hw, hG, hbl, e, o, (fun h => by cases h), hR⟩
theorem KQ.low (h : KQ p S S' w G B f X bl t n v0 len xs nn R L u w1) : ∀ g, some p = some g → g < B := fun g hg => by injection hg with hg; have := h.env.low; have := h.hw; omega
theorem KQ.no4 (h : KQ p S S' w G B f X bl t n v0 len xs nn R L u w1) (h3 : L 3 = false) : L 4 = false := by
  cases e : L 4
  · rfl
  · have := h.c4 e; rw [h3] at this; cases this
theorem KQ.no5 (h : KQ p S S' w G B f X bl t n v0 len xs nn R L u w1) (h4 : L 4 = false) : L 5 = false := by
  cases e : L 5
  · rfl
  · have := (h.c5 e).1; rw [h4] at this; cases this
theorem KQ.no7 (h : KQ p S S' w G B f X bl t n v0 len xs nn R L u w1) (h5 : L 5 = false) : L 7 = false := by
  cases e : L 7
  · rfl
  · have := h.c7 e; rw [h5] at this; cases this
theorem KQ.no5' (h : KQ p S S' w G B f X bl t n v0 len xs nn R L u w1) (h1 : L 1 = false) : L 5 = false := by
  cases e : L 5
  · rfl
  · have := (h.c5 e).2; rw [h1] at this; cases this
theorem KQ.pure (h : KQ p S S' w G B f X bl t n v0 len xs nn R L u w1) (h3 : j ≠ 3) (h4 : j ≠ 4) (h5 : j ≠ 5) (h7 : j ≠ 7) : KQ p S S' w G B f X bl t n v0 len xs nn R (upd L j true) (upd u j v) w1 := by
  have e3 : upd L j true 3 = L 3 := upd_other _ _ (Ne.symm h3)
  have e4 : upd L j true 4 = L 4 := upd_other _ _ (Ne.symm h4)
  have e5 : upd L j true 5 = L 5 := upd_other _ _ (Ne.symm h5)
  have e7 : upd L j true 7 = L 7 := upd_other _ _ (Ne.symm h7)
  have f4 : upd u j v 4 = u 4 := upd_other _ _ (Ne.symm h4)
  have f5 : upd u j v 5 = u 5 := upd_other _ _ (Ne.symm h5)
  refine ⟨by rw [e7, e5]; exact h.c7, ?_, by rw [e4, e3]; exact h.c4, h.hB, h.hw, h.hG, h.hbl, by rw [e3, e7, f5]; exact h.env, by rw [e5, f5]; exact h.own, by rw [e4, e5, f4]; exact h.lit, h.keep⟩
  rw [e5, e4]
  intro hh
  obtain ⟨a, b⟩ := h.c5 hh
  refine ⟨a, ?_⟩
  by_cases hj : 1 = j
  · subst hj; exact upd_same ..
  · rw [upd_other _ _ hj]; exact b
theorem KQ.call (h : KQ p S S' w G B f X bl t n v0 len xs nn R L u w1) (h3 : L 3 = false) (r : RdR w2 p S') (k : Kept (some p) w1.heap.size w1 w2) (hR : R w2) : KQ p S S' w G B f X bl t n v0 len xs nn R (upd L 3 true) (upd u 3 v) w2 := by
  have h4 := h.no4 h3
  have h5 := h.no5 h4
  have h7 := h.no7 h5
  have o := h.own
  have E := h.env
  rw [if_neg (by rw [h5]; simp)] at o
  rw [if_neg (by rw [h3]; simp), if_neg (by rw [h7]; simp)] at E
  have e4 : upd L 3 true 4 = false := (upd_other _ _ (by decide)).trans h4
  have e5 : upd L 3 true 5 = false := (upd_other _ _ (by decide)).trans h5
  have e7 : upd L 3 true 7 = false := (upd_other _ _ (by decide)).trans h7
  refine ⟨(fun e => by rw [e7] at e; cases e), (fun e => by rw [e5] at e; cases e), (fun e => by rw [e4] at e; cases e), Nat.le_trans h.hB k.size, h.hw, h.hG, h.hbl, ?_, ?_, (fun e => by rw [e4] at e; cases e), hR⟩
  · rw [upd_same, if_pos rfl, if_neg (by rw [e7]; simp)]
    exact E.call r k
  · rw [if_neg (by rw [e5]; simp)]
    exact own_kept o k h.low
theorem KQ.make (h : KQ p S S' w G B f X bl t n v0 len xs nn R L u w1) (h3 : L 3 = true) (h4 : L 4 = false) {cells : Array Value} (hc : cells.toList = nn) (hn : nn.length = n) (hR : R (w1.alloc (.cells cells t))) : KQ p S S' w G B f X bl t n v0 len xs nn R (upd L 4 true) (upd u 4 (.slice (some ⟨w1.heap.size, 0, none⟩) 1 1)) (w1.alloc (.cells cells t)) := by
  have h5 := h.no5 h4
  have h7 := h.no7 h5
  have o := h.own
  have E := h.env
  rw [if_neg (by rw [h5]; simp)] at o
  rw [if_pos h3, if_neg (by rw [h7]; simp)] at E
  have e3 : upd L 4 true 3 = true := (upd_other _ _ (by decide)).trans h3
  have e5 : upd L 4 true 5 = false := (upd_other _ _ (by decide)).trans h5
  have e7 : upd L 4 true 7 = false := (upd_other _ _ (by decide)).trans h7
  have hb : Below w1.heap.size w1 (w1.alloc (.cells cells t)) := (Below.refl _ _).alloc (Nat.le_refl _) _
  refine ⟨(fun e => by rw [e7] at e; cases e), (fun e => by rw [e5] at e; cases e), fun _ => e3, Nat.le_trans h.hB hb.size, h.hw, h.hG, h.hbl, ?_, ?_, fun _ _ => ⟨w1.heap.size, upd_same .., ?_⟩, hR⟩
  · rw [if_pos e3, if_neg (by rw [e7]; simp)]
    exact E.below hb
  · rw [if_neg (by rw [e5]; simp)]
    exact own_below o hb
  · have := Src.new w1 cells.toList t n (by rw [hc]; exact hn)
    rw [Array.toArray_toList] at this
    rw [← hc]
    exact this
theorem KQ.app (h : KQ p S S' w G B f X bl t n v0 len xs nn R L u w1) (h1 : L 1 = true) (h4 : L 4 = true) (h5 : L 5 = false) (o : w2.ownsRow B t n v (len + 1) (xs ++ nn)) (k : Below B w1 w2) (hR : R w2) : KQ p S S' w G B f X bl t n v0 len xs nn R (upd L 5 true) (upd u 5 v) w2 := by
  have h3 := h.c4 h4
  have h7 := h.no7 h5
  have E := h.env
  rw [if_pos h3, if_neg (by rw [h7]; simp)] at E
  have e1 : upd L 5 true 1 = true := (upd_other _ _ (by decide)).trans h1
  have e3 : upd L 5 true 3 = true := (upd_other _ _ (by decide)).trans h3
  have e4 : upd L 5 true 4 = true := (upd_other _ _ (by decide)).trans h4
  have e7 : upd L 5 true 7 = false := (upd_other _ _ (by decide)).trans h7
  have e5 : upd L 5 true 5 = true := upd_same ..
  have hw := h.hw
  have hG := h.hG
  refine ⟨(fun e => by rw [e7] at e; cases e), fun _ => ⟨e4, e1⟩, fun _ => e3, Nat.le_trans h.hB k.size, h.hw, h.hG, h.hbl, ?_, ?_, (fun _ e => by rw [e5] at e; cases e), hR⟩
  · rw [if_pos e3, if_neg (by rw [e7]; simp)]
    refine E.belowQ (by omega) (fun y hy => ?_) k
    rcases List.mem_cons.1 hy with rfl | hy
    · exact hG
    · exact h.hbl y hy
  · rw [if_pos e5, upd_same]
    exact o
theorem KQ.put (h : KQ p S S' w G B f X bl t n v0 len xs nn R L u w1) (h5 : L 5 = true) (h7 : L 7 = false) (hR : R (w1.setCell ⟨G, f, none⟩ (u 5))) : KQ p S S' w G B f X bl t n v0 len xs nn R (upd L 7 true) (upd u 7 v) (w1.setCell ⟨G, f, none⟩ (u 5)) := by
  have h4 := (h.c5 h5).1
  have h1 := (h.c5 h5).2
  have h3 := h.c4 h4
  have o := h.own
  have E := h.env
  rw [if_pos h5] at o
  rw [if_pos h3, if_neg (by rw [h7]; simp)] at E
  have e1 : upd L 7 true 1 = true := (upd_other _ _ (by decide)).trans h1
  have e3 : upd L 7 true 3 = true := (upd_other _ _ (by decide)).trans h3
  have e4 : upd L 7 true 4 = true := (upd_other _ _ (by decide)).trans h4
  have e5 : upd L 7 true 5 = true := (upd_other _ _ (by decide)).trans h5
  have f5 : upd u 7 v 5 = u 5 := upd_other _ _ (by decide)
  have hG := h.hG
  refine ⟨fun _ => e5, fun _ => ⟨e4, e1⟩, fun _ => e3, Nat.le_trans h.hB (kept_set w1 G f (u 5)).size, h.hw, h.hG, h.hbl, ?_, ?_, (fun _ e => by rw [e5] at e; cases e), hR⟩
  · rw [if_pos e3, if_pos (upd_same ..), f5]
    exact E.store0 f (u 5)
  · rw [if_pos e5, f5]
    exact own_kept o (kept_set w1 G f (u 5)) (fun g hg => by injection hg with hg; omega)
theorem KQ.done (h : KQ p S S' w G B f X bl t n v0 len xs nn R (fun j => decide (j < 8)) u w1) : EnvR p S' w w1 ((G, X.setIfInBounds f (u 5)) :: bl) ∧ w1.ownsRow B t n (u 5) (len + 1) (xs ++ nn) ∧ R w1 ∧ B ≤ w1.heap.size := ⟨h.env, h.own, h.keep, h.hB⟩
theorem KQ.blk (h : KQ p S S' w G B f X bl t n v0 len xs nn R L u w1) (h7 : L 7 = false) : Blk w1 G X := by
  have := h.env.b0
  rwa [if_neg (by rw [h7]; simp)] at this
theorem KQ.rd (h : KQ p S S' w G B f X bl t n v0 len xs nn R L u w1) (h3 : L 3 = false) : RdR w1 p S := by
  have := h.env.rd
  rwa [if_neg (by rw [h3]; simp)] at this
theorem KQ.own0 (h : KQ p S S' w G B f X bl t n v0 len xs nn R L u w1) (h5 : L 5 = false) : w1.ownsRow B t n v0 len xs := by
  have := h.own
  rwa [if_neg (by rw [h5]; simp)] at this
theorem KQ.own1 (h : KQ p S S' w G B f X bl t n v0 len xs nn R L u w1) (h5 : L 5 = true) : w1.ownsRow B t n (u 5) (len + 1) (xs ++ nn) := by
  have := h.own
  rwa [if_pos h5] at this
end
end Go.Proofs.YtldoedmclfbgpaaDoor
namespace Go.Proofs.YtldoedmclfbgpaaDoor
open Go.RowKit

set_option maxHeartbeats 2000000 in
set_option maxRecDepth 4000 in
theorem c_ref08_Value (h : Nat) (st : Rd) (w : World) (r : RdR w h st) : Calls Tryd.prog 68 #[.pointer (some ⟨h, 0, none⟩)] w (RetR h (rdVal' st) w (rdVal st).val) := by
  unfold Val.val
  have hlt := r.lt
  have hpl : ∀ g, some h = some g → g < w.heap.size := fun g e => by injection e with e; omega
  have hne0 : h ≠ w.heap.size := by omega
  rcases rdN2_cases st with h0 | h0 | h0
  · have h1 := rdVal'_0 h0
    by_cases he : (rdN' st 2).e = 0
    · have hb : ((rdN' st 2).e != 0) = false := by simpa using he
      have hv := rdVal_0 (by rw [h1]; exact he) h0
      rw [h1, hv]
      have H0 := Lib.hid h0
      clear he hv h1 h0
      go_enter Tryd.func68, Tryd.ntmps68
      go_wp2_with (fail)
      refine (c_ref01_RNum h st 2 _ (r.below ((Below.refl _ _).alloc (Nat.le_refl _) _))).mono ?_
      rintro e w1 ⟨rfl, hr1, hk1⟩
      rw [H0.out]
      have hz1 := hk1.size
      simp only [World.size_alloc] at hz1
      have hne1 : h ≠ w1.heap.size := by omega
      have hh1 : h < w1.heap.size := by omega
      have B0 := Lib.hid ((Blk.new w 53 #[.int .i64 0, .int .i64 0, .string (str [])]).kept hk1 (by simp) (ne_of_lt hpl (Nat.le_refl _)))
      obtain ⟨a0, a1, a2, af⟩ := (B0.out.below ((Below.refl _ _).alloc (Nat.le_refl _) (.cells #[.int .i64 0, .int .i64 0, .string (str [])] 53)) B0.out.lt).three
      have c1 : w1.cell? ⟨h, 1, none⟩ = some (.int .i64 (rdN' st 2).e) := hr1.1.cell rfl
      go_wp2_with (fail)
      refine bodyPost_ret (v := .agg #[.int .i64 0, .int .i64 0, .string (str [])]) (by simp [results, Tryd.results68, go_sem, a0, a1, a2]) rfl ⟨rfl, hr1.up (B := w.heap.size) (by repeat (first | exact Below.refl _ _ | refine Below.drew ?_ | refine Below.alloc ?_ (by first | omega | (simp; done) | (simp; omega)) _ | refine Below.setCell ?_ (by first | omega | (simp; done) | (simp; omega)) _ | refine Below.trans ?_ (Below.mono (by assumption) (by first | omega | (simp; done) | (simp; omega))))) hlt, (by repeat (first | exact Kept.refl _ _ _ | refine Kept.drew ?_ | refine Kept.alloc ?_ (by first | omega | (simp; done) | (simp; omega)) _ | refine Kept.setCell ?_ (by first | (right; rfl) | (left; first | omega | (simp; done) | (simp; omega))) _ | refine Kept.then_kept ?_ (by assumption) (by first | omega | (simp; done) | (simp; omega)) | refine Kept.then_below ?_ (by assumption) (by first | omega | (simp; done) | (simp; omega)) | refine Kept.low ?_ (by assumption)))⟩
    · have hb : ((rdN' st 2).e != 0) = true := by simpa using he
      have hv := rdVal_bad (by rw [h1]; exact he)
      rw [h1, hv]
      have H0 := Lib.hid h0
      clear he hv h1 h0
      go_enter Tryd.func68, Tryd.ntmps68
      go_wp2_with (fail)
      refine (c_ref01_RNum h st 2 _ (r.below ((Below.refl _ _).alloc (Nat.le_refl _) _))).mono ?_
      rintro e w1 ⟨rfl, hr1, hk1⟩
      rw [H0.out]
      have hz1 := hk1.size
      simp only [World.size_alloc] at hz1
      have hne1 : h ≠ w1.heap.size := by omega
      have hh1 : h < w1.heap.size := by omega
      have B0 := Lib.hid ((Blk.new w 53 #[.int .i64 0, .int .i64 0, .string (str [])]).kept hk1 (by simp) (ne_of_lt hpl (Nat.le_refl _)))
      obtain ⟨a0, a1, a2, af⟩ := (B0.out.below ((Below.refl _ _).alloc (Nat.le_refl _) (.cells #[.int .i64 0, .int .i64 0, .string (str [])] 53)) B0.out.lt).three
      have c1 : w1.cell? ⟨h, 1, none⟩ = some (.int .i64 (rdN' st 2).e) := hr1.1.cell rfl
      go_wp2_with (fail)
      refine bodyPost_ret (v := .agg #[.int .i64 0, .int .i64 0, .string (str [])]) (by simp [results, Tryd.results68, go_sem, a0, a1, a2]) rfl ⟨rfl, hr1.up (B := w.heap.size) (by repeat (first | exact Below.refl _ _ | refine Below.drew ?_ | refine Below.alloc ?_ (by first | omega | (simp; done) | (simp; omega)) _ | refine Below.setCell ?_ (by first | omega | (simp; done) | (simp; omega)) _ | refine Below.trans ?_ (Below.mono (by assumption) (by first | omega | (simp; done) | (simp; omega))))) hlt, (by repeat (first | exact Kept.refl _ _ _ | refine Kept.drew ?_ | refine Kept.alloc ?_ (by first | omega | (simp; done) | (simp; omega)) _ | refine Kept.setCell ?_ (by first | (right; rfl) | (left; first | omega | (simp; done) | (simp; omega))) _ | refine Kept.then_kept ?_ (by assumption) (by first | omega | (simp; done) | (simp; omega)) | refine Kept.then_below ?_ (by assumption) (by first | omega | (simp; done) | (simp; omega)) | refine Kept.low ?_ (by assumption)))⟩
  · have h1 := rdVal'_1 h0
    by_cases he : (rdN' (rdN' st 2) 1099511627776).e = 0
    · have hb : ((rdN' (rdN' st 2) 1099511627776).e != 0) = false := by simpa using he
      have hv := rdVal_1 (by rw [h1]; exact he) h0
      rw [h1, hv]
      have H0 := Lib.hid h0
      clear he hv h1 h0
      go_enter Tryd.func68, Tryd.ntmps68
      go_wp2_with (fail)
      refine (c_ref01_RNum h st 2 _ (r.below ((Below.refl _ _).alloc (Nat.le_refl _) _))).mono ?_
      rintro e w1 ⟨rfl, hr1, hk1⟩
      rw [H0.out]
      have hz1 := hk1.size
      simp only [World.size_alloc] at hz1
      have hne1 : h ≠ w1.heap.size := by omega
      have hh1 : h < w1.heap.size := by omega
      have B0 := Lib.hid ((Blk.new w 53 #[.int .i64 0, .int .i64 0, .string (str [])]).kept hk1 (by simp) (ne_of_lt hpl (Nat.le_refl _)))
      go_wp2_with (fail)
      refine (c_ref01_RNum h (rdN' st 2) 1099511627776 _ (hr1.below ((Below.refl _ _).alloc (Nat.le_refl _) _))).mono ?_
      rintro e w2 ⟨rfl, hr2, hk2⟩
      have hz2 := hk2.size
      simp only [World.size_alloc] at hz2
      obtain ⟨a0, a1, a2, af⟩ := ((B0.out.below ((Below.refl _ _).alloc (Nat.le_refl _) _) B0.out.lt).kept hk2 (by simp; omega) (ne_of_lt hpl (Nat.le_refl _))).three
      obtain ⟨b0, b1, b2, bf⟩ := (((Blk.new w1 53 #[.int .i64 1, .int .i64 0, .string (str [])]).kept hk2 (by simp) (ne_of_lt hpl (by omega)))).three
      have c1 : w2.cell? ⟨h, 1, none⟩ = some (.int .i64 (rdN' (rdN' st 2) 1099511627776).e) := hr2.1.cell rfl
      have hne3 : w.heap.size ≠ w1.heap.size := by omega
      go_wp2_with (fail)
      refine bodyPost_ret (v := .agg #[.int .i64 1, .int .i64 (rdN (rdN' st 2) 1099511627776), .string (str [])]) (by simp [results, Tryd.results68, go_sem, a0, a1, a2]) rfl ⟨rfl, hr2.up (B := w.heap.size) (by repeat (first | exact Below.refl _ _ | refine Below.drew ?_ | refine Below.alloc ?_ (by first | omega | (simp; done) | (simp; omega)) _ | refine Below.setCell ?_ (by first | omega | (simp; done) | (simp; omega)) _ | refine Below.trans ?_ (Below.mono (by assumption) (by first | omega | (simp; done) | (simp; omega))))) hlt, (by repeat (first | exact Kept.refl _ _ _ | refine Kept.drew ?_ | refine Kept.alloc ?_ (by first | omega | (simp; done) | (simp; omega)) _ | refine Kept.setCell ?_ (by first | (right; rfl) | (left; first | omega | (simp; done) | (simp; omega))) _ | refine Kept.then_kept ?_ (by assumption) (by first | omega | (simp; done) | (simp; omega)) | refine Kept.then_below ?_ (by assumption) (by first | omega | (simp; done) | (simp; omega)) | refine Kept.low ?_ (by assumption)))⟩
    · have hb : ((rdN' (rdN' st 2) 1099511627776).e != 0) = true := by simpa using he
      have hv := rdVal_bad (by rw [h1]; exact he)
      rw [h1, hv]
      have H0 := Lib.hid h0
      clear he hv h1 h0
      go_enter Tryd.func68, Tryd.ntmps68
      go_wp2_with (fail)
      refine (c_ref01_RNum h st 2 _ (r.below ((Below.refl _ _).alloc (Nat.le_refl _) _))).mono ?_
      rintro e w1 ⟨rfl, hr1, hk1⟩
      rw [H0.out]
      have hz1 := hk1.size
      simp only [World.size_alloc] at hz1
      have hne1 : h ≠ w1.heap.size := by omega
      have hh1 : h < w1.heap.size := by omega
      have B0 := Lib.hid ((Blk.new w 53 #[.int .i64 0, .int .i64 0, .string (str [])]).kept hk1 (by simp) (ne_of_lt hpl (Nat.le_refl _)))
      go_wp2_with (fail)
      refine (c_ref01_RNum h (rdN' st 2) 1099511627776 _ (hr1.below ((Below.refl _ _).alloc (Nat.le_refl _) _))).mono ?_
      rintro e w2 ⟨rfl, hr2, hk2⟩
      have hz2 := hk2.size
      simp only [World.size_alloc] at hz2
      obtain ⟨a0, a1, a2, af⟩ := ((B0.out.below ((Below.refl _ _).alloc (Nat.le_refl _) _) B0.out.lt).kept hk2 (by simp; omega) (ne_of_lt hpl (Nat.le_refl _))).three
      obtain ⟨b0, b1, b2, bf⟩ := (((Blk.new w1 53 #[.int .i64 1, .int .i64 0, .string (str [])]).kept hk2 (by simp) (ne_of_lt hpl (by omega)))).three
      have c1 : w2.cell? ⟨h, 1, none⟩ = some (.int .i64 (rdN' (rdN' st 2) 1099511627776).e) := hr2.1.cell rfl
      have hne3 : w.heap.size ≠ w1.heap.size := by omega
      go_wp2_with (fail)
      refine bodyPost_ret (v := .agg #[.int .i64 0, .int .i64 0, .string (str [])]) (by simp [results, Tryd.results68, go_sem, a0, a1, a2]) rfl ⟨rfl, hr2.up (B := w.heap.size) (by repeat (first | exact Below.refl _ _ | refine Below.drew ?_ | refine Below.alloc ?_ (by first | omega | (simp; done) | (simp; omega)) _ | refine Below.setCell ?_ (by first | omega | (simp; done) | (simp; omega)) _ | refine Below.trans ?_ (Below.mono (by assumption) (by first | omega | (simp; done) | (simp; omega))))) hlt, (by repeat (first | exact Kept.refl _ _ _ | refine Kept.drew ?_ | refine Kept.alloc ?_ (by first | omega | (simp; done) | (simp; omega)) _ | refine Kept.setCell ?_ (by first | (right; rfl) | (left; first | omega | (simp; done) | (simp; omega))) _ | refine Kept.then_kept ?_ (by assumption) (by first | omega | (simp; done) | (simp; omega)) | refine Kept.then_below ?_ (by assumption) (by first | omega | (simp; done) | (simp; omega)) | refine Kept.low ?_ (by assumption)))⟩
  · have h1 := rdVal'_2 h0
    by_cases he : (rdS' (rdN' st 2) 24).e = 0
    · have hb : ((rdS' (rdN' st 2) 24).e != 0) = false := by simpa using he
      have hv := rdVal_2 (by rw [h1]; exact he) h0
      rw [h1, hv]
      have H0 := Lib.hid h0
      clear he hv h1 h0
      go_enter Tryd.func68, Tryd.ntmps68
      go_wp2_with (fail)
      refine (c_ref01_RNum h st 2 _ (r.below ((Below.refl _ _).alloc (Nat.le_refl _) _))).mono ?_
      rintro e w1 ⟨rfl, hr1, hk1⟩
      rw [H0.out]
      have hz1 := hk1.size
      simp only [World.size_alloc] at hz1
      have hne1 : h ≠ w1.heap.size := by omega
      have hh1 : h < w1.heap.size := by omega
      have B0 := Lib.hid ((Blk.new w 53 #[.int .i64 0, .int .i64 0, .string (str [])]).kept hk1 (by simp) (ne_of_lt hpl (Nat.le_refl _)))
      go_wp2_with (fail)
      refine (c_ref01_RStr h (rdN' st 2) 24 _ (hr1.below ((Below.refl _ _).alloc (Nat.le_refl _) _))).mono ?_
      rintro e w2 ⟨rfl, hr2, hk2⟩
      have hz2 := hk2.size
      simp only [World.size_alloc] at hz2
      obtain ⟨a0, a1, a2, af⟩ := ((B0.out.below ((Below.refl _ _).alloc (Nat.le_refl _) _) B0.out.lt).kept hk2 (by simp; omega) (ne_of_lt hpl (Nat.le_refl _))).three
      obtain ⟨b0, b1, b2, bf⟩ := (((Blk.new w1 53 #[.int .i64 2, .int .i64 0, .string (str [])]).kept hk2 (by simp) (ne_of_lt hpl (by omega)))).three
      have c1 : w2.cell? ⟨h, 1, none⟩ = some (.int .i64 (rdS' (rdN' st 2) 24).e) := hr2.1.cell rfl
      have hne3 : w.heap.size ≠ w1.heap.size := by omega
      go_wp2_with (fail)
      refine bodyPost_ret (v := .agg #[.int .i64 2, .int .i64 0, .string (str (rdS (rdN' st 2) 24))]) (by simp [results, Tryd.results68, go_sem, a0, a1, a2]) rfl ⟨rfl, hr2.up (B := w.heap.size) (by repeat (first | exact Below.refl _ _ | refine Below.drew ?_ | refine Below.alloc ?_ (by first | omega | (simp; done) | (simp; omega)) _ | refine Below.setCell ?_ (by first | omega | (simp; done) | (simp; omega)) _ | refine Below.trans ?_ (Below.mono (by assumption) (by first | omega | (simp; done) | (simp; omega))))) hlt, (by repeat (first | exact Kept.refl _ _ _ | refine Kept.drew ?_ | refine Kept.alloc ?_ (by first | omega | (simp; done) | (simp; omega)) _ | refine Kept.setCell ?_ (by first | (right; rfl) | (left; first | omega | (simp; done) | (simp; omega))) _ | refine Kept.then_kept ?_ (by assumption) (by first | omega | (simp; done) | (simp; omega)) | refine Kept.then_below ?_ (by assumption) (by first | omega | (simp; done) | (simp; omega)) | refine Kept.low ?_ (by assumption)))⟩
    · have hb : ((rdS' (rdN' st 2) 24).e != 0) = true := by simpa using he
      have hv := rdVal_bad (by rw [h1]; exact he)
      rw [h1, hv]
      have H0 := Lib.hid h0
      clear he hv h1 h0
      go_enter Tryd.func68, Tryd.ntmps68
      go_wp2_with (fail)
      refine (c_ref01_RNum h st 2 _ (r.below ((Below.refl _ _).alloc (Nat.le_refl _) _))).mono ?_
      rintro e w1 ⟨rfl, hr1, hk1⟩
      rw [H0.out]
      have hz1 := hk1.size
      simp only [World.size_alloc] at hz1
      have hne1 : h ≠ w1.heap.size := by omega
      have hh1 : h < w1.heap.size := by omega
      have B0 := Lib.hid ((Blk.new w 53 #[.int .i64 0, .int .i64 0, .string (str [])]).kept hk1 (by simp) (ne_of_lt hpl (Nat.le_refl _)))
      go_wp2_with (fail)
      refine (c_ref01_RStr h (rdN' st 2) 24 _ (hr1.below ((Below.refl _ _).alloc (Nat.le_refl _) _))).mono ?_
      rintro e w2 ⟨rfl, hr2, hk2⟩
      have hz2 := hk2.size
      simp only [World.size_alloc] at hz2
      obtain ⟨a0, a1, a2, af⟩ := ((B0.out.below ((Below.refl _ _).alloc (Nat.le_refl _) _) B0.out.lt).kept hk2 (by simp; omega) (ne_of_lt hpl (Nat.le_refl _))).three
      obtain ⟨b0, b1, b2, bf⟩ := (((Blk.new w1 53 #[.int .i64 2, .int .i64 0, .string (str [])]).kept hk2 (by simp) (ne_of_lt hpl (by omega)))).three
      have c1 : w2.cell? ⟨h, 1, none⟩ = some (.int .i64 (rdS' (rdN' st 2) 24).e) := hr2.1.cell rfl
      have hne3 : w.heap.size ≠ w1.heap.size := by omega
      go_wp2_with (fail)
      refine bodyPost_ret (v := .agg #[.int .i64 0, .int .i64 0, .string (str [])]) (by simp [results, Tryd.results68, go_sem, a0, a1, a2]) rfl ⟨rfl, hr2.up (B := w.heap.size) (by repeat (first | exact Below.refl _ _ | refine Below.drew ?_ | refine Below.alloc ?_ (by first | omega | (simp; done) | (simp; omega)) _ | refine Below.setCell ?_ (by first | omega | (simp; done) | (simp; omega)) _ | refine Below.trans ?_ (Below.mono (by assumption) (by first | omega | (simp; done) | (simp; omega))))) hlt, (by repeat (first | exact Kept.refl _ _ _ | refine Kept.drew ?_ | refine Kept.alloc ?_ (by first | omega | (simp; done) | (simp; omega)) _ | refine Kept.setCell ?_ (by first | (right; rfl) | (left; first | omega | (simp; done) | (simp; omega))) _ | refine Kept.then_kept ?_ (by assumption) (by first | omega | (simp; done) | (simp; omega)) | refine Kept.then_below ?_ (by assumption) (by first | omega | (simp; done) | (simp; omega)) | refine Kept.low ?_ (by assumption)))⟩
end Go.Proofs.YtldoedmclfbgpaaDoor
namespace Go.Proofs.YtldoedmclfbgpaaDoor
open Go.RowKit

/-- What stands when the fields below k have been read. -/
structure CrdAt (w : World) (h : Nat) (S : Rd) (F : List Val) (m : Nat) (a b : Int) (L : Nat) (k : Nat) (st : Rd) (f : List Val) (wr : World) : Prop where
  len : f.length = 8
  eS : rdFs' false (bitsFrom m k) st = S
  eF : S.e = 0 → rdFv false (bitsFrom m k) st f = F
  rd : RdR wr h st
  R : ∃ z, z.size = 27 ∧ Blk wr w.heap.size z
  C : Blk wr (w.heap.size + 1) (Card.arr ⟨a, b, L, f⟩)
  kept : Kept (some h) w.heap.size w wr
section
variable {w wr w' : World} {h : Nat} {S : Rd} {F : List Val} {m : Nat} {a b : Int} {L k : Nat} {st : Rd} {f : List Val}
theorem CrdAt.no (I : CrdAt w h S F m a b L k st f wr) (hk : k < 8) (hb : m.testBit k = false) (hw : Below wr.heap.size wr w') : CrdAt w h S F m a b L (k + 1) st f w' := by
  have e := bitsFrom_no hk hb
  obtain ⟨z, hz, hR⟩ := I.R
  exact ⟨I.len, by rw [← e]; exact I.eS, by rw [← e]; exact I.eF, I.rd.below hw, ⟨z, hz, hR.below hw hR.lt⟩, I.C.below hw I.C.lt, I.kept.then_below hw I.kept.size⟩
theorem CrdAt.skip (I : CrdAt w h S F m a b L k st f wr) (hk : k < 8) (hb : m.testBit k = true) (he : st.e ≠ 0) (hw : Below wr.heap.size wr w') : CrdAt w h S F m a b L (k + 1) st f w' := by
  have e := bitsFrom_yes hk hb
  obtain ⟨z, hz, hR⟩ := I.R
  have hS := I.eS
  refine ⟨I.len, ?_, fun h0 => ?_, I.rd.below hw, ⟨z, hz, hR.below hw hR.lt⟩, I.C.below hw I.C.lt, I.kept.then_below hw I.kept.size⟩
  · rw [e, rdFs', fldS_bad he] at hS; exact hS
  · rw [rdFs'_bad he] at hS; rw [hS] at he; exact absurd h0 he
theorem CrdAt.one (I : CrdAt w h S F m a b L k st f wr) (hh : h < w.heap.size) (hk : k < 8) (hb : m.testBit k = true) {w1 w2 w3 : World} (k0 : Below wr.heap.size wr w1) (k1 : Kept (some h) w1.heap.size w1 w2) (k2 : Kept (some (w.heap.size + 1)) w2.heap.size w2 w3) (k3 : Kept (some h) w3.heap.size w3 w')
    (hr : RdR w' h (fldS false st)) (hC : Blk w3 (w.heap.size + 1) (Card.arr ⟨a, b, L, f.set k (rdVal st)⟩)) : CrdAt w h S F m a b L (k + 1) (fldS false st) (f.set k (rdVal st)) w' := by
  have e := bitsFrom_yes hk hb
  obtain ⟨z, hz, hR⟩ := I.R
  have hS := I.eS
  have hF := I.eF
  rw [e] at hS hF
  have z0 := k0.size
  have z1 := k1.size
  have z2 := k2.size
  have zw := I.kept.size
  have zl := hR.lt
  have b1 := hR.below k0 hR.lt
  have b2 := b1.kept k1 b1.lt (by simp; omega)
  have b3 := b2.kept k2 b2.lt (by simp)
  refine ⟨by rw [List.length_set]; exact I.len, hS, hF, hr, ⟨z, hz, b3.kept k3 b3.lt (by simp; omega)⟩, hC.kept k3 hC.lt (by simp; omega), ?_⟩
  exact (((I.kept.then_below k0 zw).trans (k1.mono (by omega))).trans (k2.one (by omega) (.inl (by omega)))).trans (k3.mono (by omega))
end
set_option maxHeartbeats 8000000 in
set_option maxRecDepth 4000 in
theorem c_ref08_Card (h : Nat) (st : Rd) (w : World) (hr : RdR w h st) : Calls Tryd.prog 50 #[.pointer (some ⟨h, 0, none⟩)] w (RetR h (rdCard' st) w (.agg (rdCard st).arr)) := by
  have hh := hr.lt
  have hdef := rdCard'_def st
  have hM : (rdN (cdC st) 255) = (cdM st : Int) := by have := rdN_bd (cdC st) 255; unfold cdM; omega
  have hb255 := rdN_bd (cdC st) 255
  have hbL := rdN_bd (cdB st) 65535
  have hfl := cdF_len st
  have HFL := Lib.hid hfl
  obtain ⟨S, hS⟩ : ∃ S, S = rdCard' st := ⟨_, rfl⟩
  obtain ⟨L, hL⟩ : ∃ L, L = (rdN (cdB st) 65535).toNat := ⟨_, rfl⟩
  have hLi : (rdN (cdB st) 65535) = (L : Int) := by omega
  have hLb : L ≤ 65535 := by omega
  obtain ⟨M, hMm⟩ : ∃ M, M = cdM st := ⟨_, rfl⟩
  rw [← hMm] at hM
  have hM2 : M ≤ 255 := by omega
  have HL := Lib.hid hL
  have HLi := Lib.hid hLi
  have HM := Lib.hid hM
  have HMM := Lib.hid hMm
  have HS := Lib.hid hS
  rw [← hS, ← hMm] at hdef
  have HD := Lib.hid hdef
  have HF := Lib.hid (show cdF st = rdFv false (bitsTo M 8) (cdD st) f8z by rw [hMm]; rfl)
  obtain ⟨a, ha⟩ : ∃ a, a = rdN st 1073741823 := ⟨_, rfl⟩
  obtain ⟨b, hb⟩ : ∃ b, b = rdN (cdA st) 1099511627776 := ⟨_, rfl⟩
  have Ha := Lib.hid ha
  have Hb := Lib.hid hb
  clear hL hLi hM hMm hS hdef hfl ha hb hb255 hbL
  cases he : (S.e != 0)
  all_goals
    rw [← HS.out]
    go_enter Tryd.func50, Tryd.ntmps50
    go_wp2_with (with_reducible refine stS 56 (.tmp 3) (.tmp 6) rfl rfl ?_)
    refine Stop.mk (wsB rfl _ _ _ rfl (w.heap.size + 1) _ (by simp [go_sem]) rfl _ (by simpa using Blk.new (w.alloc _) _ _) strC rfl rfl (by simp [Value.oneCell']) ?_)
    intro w1 hb1 hk1
    have B1 := Lib.hid (show Blk w1 (w.heap.size + 1) cz.arr by unfold Card.arr; exact hb1)
    clear hb1
    have R1 := Lib.hid (((Blk.new w _ _).alloc _).kept hk1 (by simp; omega) (by simp))
    have hz1 := hk1.size
    simp only [World.size_alloc] at hz1
    have kw1 : Kept (some h) w.heap.size w w1 := (((Kept.refl _ _ _).alloc (Nat.le_refl _) _).alloc (by simp) _).trans (hk1.one (by simp; omega) (.inl (by omega)))
    have hr1 : RdR w1 h st := ((hr.below ((Below.refl _ _).alloc (Nat.le_refl _) _)).below ((Below.refl _ _).alloc (Nat.le_refl _) _)).kept hk1 (by simp; omega)
    clear hk1
    go_wp2_with (fail)
    refine (c_ref08_above h st 1073741823 _ hr1).mono ?_
    rintro e w2 ⟨rfl, hr2, hk2⟩
    rw [← Ha.out]
    have hz2 := hk2.size
    have kw2 : Kept (some h) w.heap.size w w2 := kw1.trans (hk2.mono (by omega))
    have B2 := B1.out.kept hk2 (by omega) (by simp; omega)
    have R2 := Lib.hid (R1.out.kept hk2 (by omega) (by simp; omega))
    have q2 := B2.cell (Card.arr_head _).1
    have f2 := B2.frozen 0
    have B3 := Lib.hid (show Blk (w2.setCell ⟨w.heap.size + 1, 0, none⟩ (.int .i64 a)) (w.heap.size + 1) (Card.arr ⟨a, 0, 0, f8z⟩) by have := B2.store 0 (.int .i64 a); rw [Card.put0] at this; exact this)
    clear B2
    go_wp2_with (fail)
    have R3 := Lib.hid (R2.out.far (q := ⟨w.heap.size + 1, 0, none⟩) (by simp) (.int .i64 a))
    have kk3 : Kept (some (w.heap.size + 1)) w2.heap.size w2 (w2.setCell ⟨w.heap.size + 1, 0, none⟩ (.int .i64 a)) := (by repeat (first | exact Kept.refl _ _ _ | refine Kept.drew ?_ | refine Kept.alloc ?_ (by first | omega | (simp; done) | (simp; omega)) _ | refine Kept.setCell ?_ (by first | (right; rfl) | (left; first | omega | (simp; done) | (simp; omega))) _ | refine Kept.then_kept ?_ (by assumption) (by first | omega | (simp; done) | (simp; omega)) | refine Kept.then_below ?_ (by assumption) (by first | omega | (simp; done) | (simp; omega)) | refine Kept.low ?_ (by assumption)))
    have hr3 : RdR (w2.setCell ⟨w.heap.size + 1, 0, none⟩ (.int .i64 a)) h (cdA st) := RdR.kept hr2 kk3 (by simp; omega)
    have kw3 : Kept (some h) w.heap.size w (w2.setCell ⟨w.heap.size + 1, 0, none⟩ (.int .i64 a)) := kw2.setCell (.inl (by simp)) _
    obtain ⟨w3, hw3⟩ : ∃ w3, w3 = w2.setCell ⟨w.heap.size + 1, 0, none⟩ (.int .i64 a) := ⟨_, rfl⟩
    have hz3 : w3.heap.size = w2.heap.size := by rw [hw3]; simp [World.setCell]
    rw [← hw3] at B3 R3 hr3 kw3 ⊢
    clear hw3 q2 f2 kk3
    refine (c_ref08_above h (cdA st) 1099511627776 _ hr3).mono ?_
    rintro e w4 ⟨rfl, hr4, hk4⟩
    rw [← Hb.out]
    have hz4 := hk4.size
    have kw4 : Kept (some h) w.heap.size w w4 := kw3.trans (hk4.mono (by omega))
    have B4 := B3.out.kept hk4 (by omega) (by simp; omega)
    have R4 := Lib.hid (R3.out.kept hk4 (by omega) (by simp; omega))
    have q4 := B4.cell (Card.arr_head _).2.1
    have f4 := B4.frozen 1
    have B5 := Lib.hid (show Blk (w4.setCell ⟨w.heap.size + 1, 1, none⟩ (.int .i64 b)) (w.heap.size + 1) (Card.arr ⟨a, b, 0, f8z⟩) by have := B4.store 1 (.int .i64 b); rw [Card.put1] at this; exact this)
    clear B4
    go_wp2_with (fail)
    have R5 := Lib.hid (R4.out.far (q := ⟨w.heap.size + 1, 1, none⟩) (by simp) (.int .i64 b))
    have kk5 : Kept (some (w.heap.size + 1)) w4.heap.size w4 (w4.setCell ⟨w.heap.size + 1, 1, none⟩ (.int .i64 b)) := (by repeat (first | exact Kept.refl _ _ _ | refine Kept.drew ?_ | refine Kept.alloc ?_ (by first | omega | (simp; done) | (simp; omega)) _ | refine Kept.setCell ?_ (by first | (right; rfl) | (left; first | omega | (simp; done) | (simp; omega))) _ | refine Kept.then_kept ?_ (by assumption) (by first | omega | (simp; done) | (simp; omega)) | refine Kept.then_below ?_ (by assumption) (by first | omega | (simp; done) | (simp; omega)) | refine Kept.low ?_ (by assumption)))
    have hr5 : RdR (w4.setCell ⟨w.heap.size + 1, 1, none⟩ (.int .i64 b)) h (cdB st) := RdR.kept hr4 kk5 (by simp; omega)
    have kw5 : Kept (some h) w.heap.size w (w4.setCell ⟨w.heap.size + 1, 1, none⟩ (.int .i64 b)) := kw4.setCell (.inl (by simp)) _
    obtain ⟨w5, hw5⟩ : ∃ w5, w5 = w4.setCell ⟨w.heap.size + 1, 1, none⟩ (.int .i64 b) := ⟨_, rfl⟩
    have hz5 : w5.heap.size = w4.heap.size := by rw [hw5]; simp [World.setCell]
    rw [← hw5] at B5 R5 hr5 kw5 ⊢
    clear hw5 q4 f4 kk5
    refine (c_ref01_RNum h (cdB st) 65535 _ hr5).mono ?_
    rintro e w6 ⟨rfl, hr6, hk6⟩
    rw [HLi.out]
    have hz6 := hk6.size
    have kw6 : Kept (some h) w.heap.size w w6 := kw5.trans (hk6.mono (by omega))
    have B6 := B5.out.kept hk6 (by omega) (by simp; omega)
    have R6 := Lib.hid (R5.out.kept hk6 (by omega) (by simp; omega))
    have q6 := B6.cell (Card.arr_head _).2.2
    have f6 := B6.frozen 2
    have B7 := Lib.hid (show Blk (w6.setCell ⟨w.heap.size + 1, 2, none⟩ (.int .u32 L)) (w.heap.size + 1) (Card.arr ⟨a, b, L, f8z⟩) by have := B6.store 2 (.int .u32 L); rw [Card.put2] at this; exact this)
    clear B6
    go_wp2_with (fail)
    have R7 := Lib.hid (R6.out.far (q := ⟨w.heap.size + 1, 2, none⟩) (by simp) (.int .u32 L))
    have kk7 : Kept (some (w.heap.size + 1)) w6.heap.size w6 (w6.setCell ⟨w.heap.size + 1, 2, none⟩ (.int .u32 L)) := (by repeat (first | exact Kept.refl _ _ _ | refine Kept.drew ?_ | refine Kept.alloc ?_ (by first | omega | (simp; done) | (simp; omega)) _ | refine Kept.setCell ?_ (by first | (right; rfl) | (left; first | omega | (simp; done) | (simp; omega))) _ | refine Kept.then_kept ?_ (by assumption) (by first | omega | (simp; done) | (simp; omega)) | refine Kept.then_below ?_ (by assumption) (by first | omega | (simp; done) | (simp; omega)) | refine Kept.low ?_ (by assumption)))
    have hr7 : RdR (w6.setCell ⟨w.heap.size + 1, 2, none⟩ (.int .u32 L)) h (cdC st) := RdR.kept hr6 kk7 (by simp; omega)
    have kw7 : Kept (some h) w.heap.size w (w6.setCell ⟨w.heap.size + 1, 2, none⟩ (.int .u32 L)) := kw6.setCell (.inl (by simp)) _
    obtain ⟨w7, hw7⟩ : ∃ w7, w7 = w6.setCell ⟨w.heap.size + 1, 2, none⟩ (.int .u32 L) := ⟨_, rfl⟩
    have hz7 : w7.heap.size = w6.heap.size := by rw [hw7]; simp [World.setCell]
    rw [← hw7] at B7 R7 hr7 kw7 ⊢
    clear hw7 q6 f6 kk7
    refine (c_ref01_RNum h (cdC st) 255 _ hr7).mono ?_
    rintro e w8 ⟨rfl, hr8, hk8⟩
    rw [HM.out]
    have hz8 := hk8.size
    have kw8 : Kept (some h) w.heap.size w w8 := kw7.trans (hk8.mono (by omega))
    have B8 := B7.out.kept hk8 (by omega) (by simp; omega)
    have R8 := R7.out.kept hk8 (by omega) (by simp; omega)
    have I0 := Lib.hid (show CrdAt w h S (cdF st) M a b L 0 (cdD st) f8z w8 from ⟨rfl, by rw [bitsFrom_zero]; exact HD.out.symm, fun _ => by rw [bitsFrom_zero]; exact HF.out.symm, hr8, ⟨_, rfl, R8⟩, B8, kw8⟩)
    clear B1 B3 B5 B7 B8 R1 R2 R3 R4 R5 R6 R7 R8 hr1 hr2 hr3 hr4 hr5 hr6 hr7 hr8 kw1 kw2 kw3 kw4 kw5 kw6 kw7 kw8 hk2 hk4 hk6 hk8 hz1 hz2 hz3 hz4 hz5 hz6 hz7 hz8
    go_wp2_with (fail)
    go_loopw [5] (fun i wr => ∃ (k : Nat) (st' : Rd) (f' : List Val), k ≤ 8 ∧ i = .int .i64 k ∧ CrdAt w h S (cdF st) M a b L k st' f' wr)
      (fun i _ => 8 - (intOf i).toNat)
    case atStart => exact ⟨0, _, _, by omega, rfl, I0.out⟩
    case round =>
      clear I0
      obtain ⟨k, st', f', hk, rfl, I⟩ := hrel
      have IH := Lib.hid I
      have hwz := I.kept.size
      clear I
      by_cases hlt : k < 8
      · cases hbit : M.testBit k
        · go_wp2_with (go_at_call 67; refine (c_ref03_Has M k (by omega) (by omega) _).mono ?_; rintro e w5 ⟨rfl, hb5⟩)
          go_roundw
          case rel => exact ⟨k + 1, st', f', by omega, by go_num, IH.out.no hlt hbit hb5⟩
          case measure => simp [intOf]; omega
        · by_cases h0 : st'.e = 0
          · have k0 : (st'.e == 0) = true := by simpa using h0
            clear h0
            by_cases h1 : (rdVal' st').e = 0
            · have k1 : ((rdVal' st').e == 0) = true := by simpa using h1
              clear h1
              by_cases h2 : (rdVal st').kind = 0
              · have k2 : ((rdVal st').kind == 0) = true := by simpa using h2
                have Fz := Lib.hid (fldS_zero h2)
                clear h2
                go_wp2_with (fail)
                refine (c_ref03_Has M k (by omega) (by omega) _).mono ?_
                rintro e w5 ⟨rfl, hb5⟩
                have r5 := IH.out.rd.below hb5
                have c5 := r5.1.cell (i := 1) rfl
                go_wp2_with (fail)
                refine (c_ref08_Value h st' _ r5).mono ?_
                rintro e w6 ⟨rfl, hr6, hk6⟩
                clear c5
                have C5 := IH.out.C.below hb5 IH.out.C.lt
                have C6 := Lib.hid (C5.kept hk6 C5.lt (by simp; omega))
                unfold Val.val
                go_wp2_with (with_reducible refine stS 53 (.tmp 38) (.tmp 36) rfl rfl ?_)
                refine Stop.mk (wpList_storeAt rfl _ _ _ rfl (w.heap.size + 1) (3 + k * 3) _ rfl rfl _ C6.out strV rfl (by rw [Card.arr_size, IH.out.len]; simp; omega) (by simp [Value.oneCell']) ?_)
                intro w7 hb7 hk7
                rw [Card.putV (by rw [IH.out.len]; exact hlt)] at hb7
                have hr7 : RdR w7 h (rdVal' st') := RdR.kept hr6 hk7 (by simp; omega)
                have c7 := hr7.1.cell (i := 1) rfl
                have cv := hb7.cell (Card.arr_val (k := k) (by rw [List.length_set, IH.out.len]; exact hlt)).1
                simp only [List.getElem_set_self] at cv
                have B7 := Lib.hid hb7
                clear hb7
                go_wp2_with (fail)
                refine (c_ref01_Fail h (rdVal' st') 3 _ hr7).mono ?_
                rintro e w8 ⟨rfl, hr8, hk8⟩
                clear c7 cv
                rw [← Fz.out] at hr8
                go_wp2_with (fail)
                go_roundw
                case rel => exact ⟨k + 1, _, _, by omega, by go_num, IH.out.one hh hlt hbit hb5 hk6 hk7 hk8 hr8 B7.out⟩
                case measure => simp [intOf]; omega
              · have k2 : ((rdVal st').kind == 0) = false := by simpa using h2
                have Fz := Lib.hid (fldS_pos (b := false) h2)
                clear h2
                go_wp2_with (fail)
                refine (c_ref03_Has M k (by omega) (by omega) _).mono ?_
                rintro e w5 ⟨rfl, hb5⟩
                have r5 := IH.out.rd.below hb5
                have c5 := r5.1.cell (i := 1) rfl
                go_wp2_with (fail)
                refine (c_ref08_Value h st' _ r5).mono ?_
                rintro e w6 ⟨rfl, hr6, hk6⟩
                clear c5
                have C5 := IH.out.C.below hb5 IH.out.C.lt
                have C6 := Lib.hid (C5.kept hk6 C5.lt (by simp; omega))
                unfold Val.val
                go_wp2_with (with_reducible refine stS 53 (.tmp 38) (.tmp 36) rfl rfl ?_)
                refine Stop.mk (wpList_storeAt rfl _ _ _ rfl (w.heap.size + 1) (3 + k * 3) _ rfl rfl _ C6.out strV rfl (by rw [Card.arr_size, IH.out.len]; simp; omega) (by simp [Value.oneCell']) ?_)
                intro w7 hb7 hk7
                rw [Card.putV (by rw [IH.out.len]; exact hlt)] at hb7
                have hr7 : RdR w7 h (rdVal' st') := RdR.kept hr6 hk7 (by simp; omega)
                have c7 := hr7.1.cell (i := 1) rfl
                have cv := hb7.cell (Card.arr_val (k := k) (by rw [List.length_set, IH.out.len]; exact hlt)).1
                simp only [List.getElem_set_self] at cv
                have B7 := Lib.hid hb7
                clear hb7
                rw [← Fz.out] at hr7
                go_wp2_with (fail)
                go_roundw
                case rel => exact ⟨k + 1, _, _, by omega, by go_num, IH.out.one hh hlt hbit hb5 hk6 hk7 (Kept.refl _ _ _) hr7 B7.out⟩
                case measure => simp [intOf]; omega
            · have k1 : ((rdVal' st').e == 0) = false := by simpa using h1
              have Fz := Lib.hid (show fldS false st' = rdVal' st' by rw [fldS_zero (by rw [rdVal_bad h1]), rdF_err h1])
              clear h1
              go_wp2_with (fail)
              refine (c_ref03_Has M k (by omega) (by omega) _).mono ?_
              rintro e w5 ⟨rfl, hb5⟩
              have r5 := IH.out.rd.below hb5
              have c5 := r5.1.cell (i := 1) rfl
              go_wp2_with (fail)
              refine (c_ref08_Value h st' _ r5).mono ?_
              rintro e w6 ⟨rfl, hr6, hk6⟩
              clear c5
              have C5 := IH.out.C.below hb5 IH.out.C.lt
              have C6 := Lib.hid (C5.kept hk6 C5.lt (by simp; omega))
              unfold Val.val
              go_wp2_with (with_reducible refine stS 53 (.tmp 38) (.tmp 36) rfl rfl ?_)
              refine Stop.mk (wpList_storeAt rfl _ _ _ rfl (w.heap.size + 1) (3 + k * 3) _ rfl rfl _ C6.out strV rfl (by rw [Card.arr_size, IH.out.len]; simp; omega) (by simp [Value.oneCell']) ?_)
              intro w7 hb7 hk7
              rw [Card.putV (by rw [IH.out.len]; exact hlt)] at hb7
              have hr7 : RdR w7 h (rdVal' st') := RdR.kept hr6 hk7 (by simp; omega)
              have c7 := hr7.1.cell (i := 1) rfl
              have B7 := Lib.hid hb7
              clear hb7
              go_wp2_with (fail)
              rw [← Fz.out] at hr7
              go_roundw
              case rel => exact ⟨k + 1, _, _, by omega, by go_num, IH.out.one hh hlt hbit hb5 hk6 hk7 (Kept.refl _ _ _) hr7 B7.out⟩
              case measure => simp [intOf]; omega
          · have k0 : (st'.e == 0) = false := by simpa using h0
            have H0 := Lib.hid h0
            clear h0
            go_wp2_with (fail)
            refine (c_ref03_Has M k (by omega) (by omega) _).mono ?_
            rintro e w5 ⟨rfl, hb5⟩
            have c5 := (IH.out.rd.below hb5).1.cell (i := 1) rfl
            go_wp2_with (fail)
            go_roundw
            case rel => exact ⟨k + 1, st', f', by omega, by go_num, IH.out.skip hlt hbit H0.out hb5⟩
            case measure => simp [intOf]; omega
      · obtain rfl : k = 8 := by omega
        obtain rfl : st' = S := IH.out.eS
        obtain ⟨z, hz, hR⟩ := IH.out.R
        have Rz := Lib.hid hR
        have Zz := Lib.hid hz
        have c0 := IH.out.rd.1.cell (i := 1) rfl
        clear hR hz
        first
        | (go_wp2_with (with_reducible refine stop_load 56 (.tmp 3) rfl rfl ?_)
           refine Stop.mk (wpList_loadB rfl _ _ rfl (w.heap.size + 1) rfl _ IH.out.C strC (by rw [Card.arr_size, IH.out.len]) ?_)
           go_wp2_with (with_reducible refine stS 56 (.tmp 2) (.tmp 60) rfl rfl ?_)
           refine Stop.mk (wsB rfl _ _ _ rfl w.heap.size _ rfl rfl _ Rz.out strC (by rw [Card.arr_size, IH.out.len]) (by rw [Card.arr_size, IH.out.len, Zz.out]) (Card.arr_ones _) ?_)
           intro w11 hb11 hk11
           have hE : st'.e = 0 := by simpa using he
           have hv : rdCard st = cdCard st := rdCard_ok (by rw [← HS.out]; exact hE)
           have B11 := Lib.hid hb11
           clear hb11
           go_wp2_with (fail)
           exact bodyPost_ret (results_B rfl rfl B11.out strC (by rw [Card.arr_size, IH.out.len])) rfl ⟨by rw [hv, HL.out, Ha.out, Hb.out, show f' = cdF st from IH.out.eF hE]; rfl, IH.out.rd.kept hk11 (by simp; omega), IH.out.kept.trans (hk11.one hwz (.inl (Nat.le_refl _)))⟩)
        | (go_wp2_with (with_reducible refine stS 56 (.tmp 2) (.tmp 59) rfl rfl ?_)
           refine Stop.mk (wsB rfl _ _ _ rfl w.heap.size _ rfl rfl _ Rz.out strC rfl (by rw [Zz.out]; rfl) (by simp [Value.oneCell']) ?_)
           intro w11 hb11 hk11
           have hE : st'.e ≠ 0 := by simpa using he
           have hv : rdCard st = cz := rdCard_bad (by rw [← HS.out]; exact hE)
           have B11 := Lib.hid (show Blk w11 w.heap.size cz.arr by unfold Card.arr; exact hb11)
           clear hb11
           go_wp2_with (fail)
           exact bodyPost_ret (results_B rfl rfl B11.out strC (by unfold Card.arr; rfl)) rfl ⟨by rw [hv], IH.out.rd.kept hk11 (by simp; omega), IH.out.kept.trans (hk11.one hwz (.inl (Nat.le_refl _)))⟩)
end Go.Proofs.YtldoedmclfbgpaaDoor
namespace Go.Proofs.YtldoedmclfbgpaaDoor
open Go.RowKit

section
variable {P : Program} {l : List Oper} {a : Act} {w : World}
/-- Behind a head of s operations that have been carried out, in whatever order. -/
theorem rel_tail {Q : Exit → Act → World → Prop} (S : List Sp) {N : Nat} (hB : relB l.toArray N = true) (ha : a.tmps.size = N) (hS : S.length = l.length) (s : Nat) (hs : s ≤ l.length) (u0 : Nat → Value)
    (hu : ∀ j o t, j < s → l[j]? = some o → o.dst = some t → a.tmps[t]? = some (u0 j) ∧ (S.getD j Sp.any).holds (u0 j) w)
    (hop : RelGoals P l.toArray S a w (l.drop s) s) (hend : ∀ u w1, Below w.heap.size w w1 → RelHold u w1 S 0 → Q .normal (putAll u l 0 a) w1) :
    wpAny P .any l.toArray Q (l.length - s) (Array.replicate s true ++ Array.replicate (l.length - s) false) a w := by
  have hg : ∀ j, (Array.replicate s true ++ Array.replicate (l.length - s) false).getD j false = decide (j < s) := by
    intro j
    rw [Array.getD_eq_getD_getElem?, Array.getElem?_append]
    by_cases h : j < s
    · simp [h]
    · simp [h]
      rw [Array.getElem?_replicate]
      split <;> rfl
  refine rel_any hB ha hS (Hop.of hop) hend _ _ a w (fun j hj => by rw [hg]; simpa using hj) (by simp; omega) (by simp [List.count_replicate]) ?_
  refine ⟨Below.refl _ _, rfl, rfl, ?_, fun _ _ => rfl, u0, ?_⟩
  · intro j o ho hl e he hb
    rw [hg] at hl ⊢
    have hj : j < s := by simpa using hl
    have := (relB_spec hB (i := j) (o := o) (by simpa using ho)).2.2.1 e he hb
    simp; omega
  · intro j o t ho hd hl
    rw [hg] at hl
    exact hu j o t (by simpa using hl) ho hd
theorem wp_move {o : Oper} {K : Act → World → Prop} {Q : Exit → Act → World → Prop} {x : Operand} (ho : o.op = .move x) (h : K (a.put o.dst (a.eval x)) w) : o.wp P a w K Q := by
  unfold Oper.wp execOp
  simp only [ho, Sem.run_pure]
  exact h
theorem wp_callf {o : Oper} {K : Act → World → Prop} {Q : Exit → Act → World → Prop} {f : FuncId} {fn : Func} {x : Operand} {ts : Array TypeId} (ho : o.op = .call { callee := .value (.func f), args := #[x], argTypes := ts })
    (hf : P.funcs[f]? = some fn) (hn : (fn.name == "runtime.NumGoroutine") = false) (hb : fn.body.isNone = false)
    (h : Calls P f #[a.eval x] w fun e w' => ∃ v, e = .returned v ∧ K (a.put o.dst v) w') : o.wp P a w K Q := by
  unfold Oper.wp execOp
  have hr : (callFunc f #[a.eval x]).run P w = .ok (.enter f #[a.eval x]) w := by
    have hn' : fn.name ≠ "runtime.NumGoroutine" := by simpa using hn
    have hb' : fn.body ≠ none := by intro h; rw [h] at hb; cases hb
    simp [callFunc, go_sem, hf, hn', hb']
  have hd : (Deferred.ofValue (a.eval (Operand.func f)) #[a.eval x]) = pure { target := .fn (.func f) #[], args := #[a.eval x] } := rfl
  simp only [ho, resolve, invoke, Sem.run_bind, List.map_toArray, List.map_cons, List.map_nil, hd, Sem.run_pure, Result.andThen_ok, Array.append_empty, hr]
  refine Calls.mono h fun e w' he => ?_
  obtain ⟨v, rfl, hk⟩ := he
  exact hk
theorem wpOp_plain {ops : Array Oper} {i : Nat} {o : Oper} {K : Act → World → Prop} {Q : Exit → Act → World → Prop} (ho : ops[i]? = some o) (hg : o.guard = none) (h : o.wp P a w K Q) : wpOp P ops Q i K a w := by
  unfold wpOp
  simp [ho, Region.wanted, hg]
  exact .inl h
theorem eval_put_ne {d : Tmp} {v : Value} {x : Operand} (h : x ≠ .tmp d) : (a.put (some d) v).eval x = a.eval x := by
  cases x with
  | tmp t =>
    have ht : d ≠ t := fun e => h (by rw [e])
    show (a.put (some d) v).tmps.getD t undef = a.tmps.getD t undef
    rw [Array.getD_eq_getD_getElem?, Array.getD_eq_getD_getElem?, put_get_ne a v (fun e => ht (by injection e))]
  | _ => rfl
theorem eval_put_eq {d : Tmp} {v : Value} (h : d < a.tmps.size) : (a.put (some d) v).eval (.tmp d) = v := by
  show (a.put (some d) v).tmps.getD d undef = v
  rw [Array.getD_eq_getD_getElem?, put_get_eq a v h]; rfl
theorem put_swap {d e : Tmp} {v u : Value} (h : d ≠ e) : (a.put (some d) v).put (some e) u = (a.put (some e) u).put (some d) v := by
  unfold Act.put
  simp only
  rw [Array.setIfInBounds_comm _ _ h]
/-- How the head's operations become ready. -/
def headB (ops : Array Oper) (n : Nat) : Bool :=
  let L := fun (a b c d : Bool) => (a :: b :: c :: d :: List.replicate n false).toArray
  (Region.ready .any ops (L false false false false) == [0, 2]) && (Region.ready .any ops (L true false false false) == [1, 2]) && (Region.ready .any ops (L false false true false) == [0]) &&
    (Region.ready .any ops (L true true false false) == [2]) && (Region.ready .any ops (L true false true false) == [1]) && (Region.ready .any ops (L true true true false) == [3])
/-- Two calls that write, one behind the other; then each operation by itself. -/
theorem wp_region_two {id : Nat} {Q : Exit → Act → World → Prop} {N : Nat} (hm : P.follows .mixedOrders = true) (hB : relB l.toArray N = true) (ha : a.tmps.size = N) (n : Nat) (hl : l.length = n + 4) (hH : headB l.toArray n = true)
    {f1 f2 : FuncId} {fn1 fn2 : Func} {x0 x2 : Operand} {d0 d1 d2 d3 : Tmp} {t1 t3 : Array TypeId} {o0 o1 o2 o3 : Oper} {r : List Oper} (hlr : l = o0 :: o1 :: o2 :: o3 :: r)
    (g0 : o0.guard = none ∧ o0.op = .move x0 ∧ o0.dst = some d0) (g1 : o1.guard = none ∧ o1.op = .call { callee := .value (.func f1), args := #[.tmp d0], argTypes := t1 } ∧ o1.dst = some d1)
    (g2 : o2.guard = none ∧ o2.op = .move x2 ∧ o2.dst = some d2) (g3 : o3.guard = none ∧ o3.op = .call { callee := .value (.func f2), args := #[.tmp d2], argTypes := t3 } ∧ o3.dst = some d3)
    (hf1 : P.funcs[f1]? = some fn1 ∧ (fn1.name == "runtime.NumGoroutine") = false ∧ fn1.body.isNone = false) (hf2 : P.funcs[f2]? = some fn2 ∧ (fn2.name == "runtime.NumGoroutine") = false ∧ fn2.body.isNone = false)
    (hx0 : x0 ≠ .tmp d2) (hx2 : x2 ≠ .tmp d0 ∧ x2 ≠ .tmp d1) (hd : d0 ≠ d1 ∧ d0 ≠ d2 ∧ d0 ≠ d3 ∧ d1 ≠ d2 ∧ d1 ≠ d3 ∧ d2 ≠ d3) (hdN : d0 < N ∧ d1 < N ∧ d2 < N ∧ d3 < N)
    (h : Calls P f1 #[a.eval x0] w.drew fun e w1 => ∃ v1, e = .returned v1 ∧ Calls P f2 #[a.eval x2] w1 fun e w2 => ∃ v2, e = .returned v2 ∧
      ∃ S' : List Sp, S'.length = n ∧ RelGoals P l.toArray (Sp.eq (a.eval x0) :: Sp.eq v1 :: Sp.eq (a.eval x2) :: Sp.eq v2 :: S') ((((a.put (some d0) (a.eval x0)).put (some d1) v1).put (some d2) (a.eval x2)).put (some d3) v2) w2 r 4 ∧
        ∀ u w3, Below w2.heap.size w2 w3 → RelHold u w3 (Sp.eq (a.eval x0) :: Sp.eq v1 :: Sp.eq (a.eval x2) :: Sp.eq v2 :: S') 0 →
          Q .normal (putAll u l 0 ((((a.put (some d0) (a.eval x0)).put (some d1) v1).put (some d2) (a.eval x2)).put (some d3) v2)) w3) :
    (Code.region id l.toArray true).wp P Q a w := by
  unfold headB at hH
  simp only [Bool.and_eq_true, beq_iff_eq] at hH
  obtain ⟨⟨⟨⟨⟨r0, r1⟩, r2⟩, r3⟩, r4⟩, r5⟩ := hH
  obtain ⟨gd0, op0, dst0⟩ := g0
  obtain ⟨gd1, op1, dst1⟩ := g1
  obtain ⟨gd2, op2, dst2⟩ := g2
  obtain ⟨gd3, op3, dst3⟩ := g3
  obtain ⟨n01, n02, n03, n12, n13, n23⟩ := hd
  obtain ⟨l0, l1, l2, l3⟩ := hdN
  have at0 : l.toArray[0]? = some o0 := by rw [hlr]; rfl
  have at1 : l.toArray[1]? = some o1 := by rw [hlr]; rfl
  have at2 : l.toArray[2]? = some o2 := by rw [hlr]; rfl
  have at3 : l.toArray[3]? = some o3 := by rw [hlr]; rfl
  refine wp_region_any hm ?_
  have e0 : Array.replicate l.toArray.size false = (false :: false :: false :: false :: List.replicate n false).toArray := by
    rw [List.size_toArray, hl]; rfl
  rw [e0, List.size_toArray, hl]
  -- the last call, and what is left
  have last : ∀ (v1 : Value) (w1 : World), (Calls P f2 #[a.eval x2] w1 fun e w2 => ∃ v2, e = .returned v2 ∧
      ∃ S' : List Sp, S'.length = n ∧ RelGoals P l.toArray (Sp.eq (a.eval x0) :: Sp.eq v1 :: Sp.eq (a.eval x2) :: Sp.eq v2 :: S') ((((a.put (some d0) (a.eval x0)).put (some d1) v1).put (some d2) (a.eval x2)).put (some d3) v2) w2 r 4 ∧
        ∀ u w3, Below w2.heap.size w2 w3 → RelHold u w3 (Sp.eq (a.eval x0) :: Sp.eq v1 :: Sp.eq (a.eval x2) :: Sp.eq v2 :: S') 0 →
          Q .normal (putAll u l 0 ((((a.put (some d0) (a.eval x0)).put (some d1) v1).put (some d2) (a.eval x2)).put (some d3) v2)) w3) →
      wpAny P .any l.toArray Q (n + 1) (true :: true :: true :: false :: List.replicate n false).toArray (((a.put (some d0) (a.eval x0)).put (some d1) v1).put (some d2) (a.eval x2)) w1 := by
    intro v1 w1 hc
    refine ⟨(fun h0 => by rw [r5] at h0; cases h0), fun i hi => ?_⟩
    rw [r5] at hi
    obtain rfl : i = 3 := by simpa using hi
    refine wpOp_plain at3 gd3 (wp_callf op3 hf2.1 hf2.2.1 hf2.2.2 ?_)
    rw [eval_put_eq (by rw [put_size, put_size, ha]; exact l2)]
    refine hc.mono ?_
    rintro e w2 ⟨v2, rfl, S', hS', hg, hend⟩
    refine ⟨v2, rfl, ?_⟩
    rw [dst3]
    have hsz : ((((a.put (some d0) (a.eval x0)).put (some d1) v1).put (some d2) (a.eval x2)).put (some d3) v2).tmps.size = N := by rw [put_size, put_size, put_size, put_size, ha]
    have key := rel_tail (P := P) (l := l) (Q := Q) (w := w2) (a := ((((a.put (some d0) (a.eval x0)).put (some d1) v1).put (some d2) (a.eval x2)).put (some d3) v2))
      (Sp.eq (a.eval x0) :: Sp.eq v1 :: Sp.eq (a.eval x2) :: Sp.eq v2 :: S') hB hsz (by simp [hS', hl]) 4 (by omega) (fun j => [a.eval x0, v1, a.eval x2, v2].getD j undef) ?_ (by rw [hlr]; rw [hlr] at hg; exact hg) hend
    · have e1 : l.length - 4 = n := by omega
      rw [e1] at key
      have e2 : ((true :: true :: true :: false :: List.replicate n false).toArray).setIfInBounds 3 true = Array.replicate 4 true ++ Array.replicate n false := by
        rw [List.setIfInBounds_toArray]
        simp only [List.set_cons_zero, List.set_cons_succ]
        apply Array.ext'
        simp [List.replicate]
      rw [e2]
      exact key
    · intro j o t hj ho hdj
      have hj4 : j = 0 ∨ j = 1 ∨ j = 2 ∨ j = 3 := by omega
      rw [hlr] at ho
      rcases hj4 with rfl | rfl | rfl | rfl
      · have hoe : o = o0 := by simpa using ho.symm
        rw [hoe, dst0] at hdj
        have hte : t = d0 := by injection hdj with hdj; exact hdj.symm
        rw [hte]
        refine ⟨?_, by simp only [List.getD_cons_zero, Sp.eq_holds]⟩
        simp only [List.getD_cons_zero]
        rw [put_get_ne _ _ (by simpa using Ne.symm n03), put_get_ne _ _ (by simpa using Ne.symm n02), put_get_ne _ _ (by simpa using Ne.symm n01)]
        exact put_get_eq _ _ (by rw [ha]; exact l0)
      · have hoe : o = o1 := by simpa using ho.symm
        rw [hoe, dst1] at hdj
        have hte : t = d1 := by injection hdj with hdj; exact hdj.symm
        rw [hte]
        refine ⟨?_, by simp only [List.getD_cons_zero, List.getD_cons_succ, Sp.eq_holds]⟩
        simp only [List.getD_cons_zero, List.getD_cons_succ]
        rw [put_get_ne _ _ (by simpa using Ne.symm n13), put_get_ne _ _ (by simpa using Ne.symm n12)]
        exact put_get_eq _ _ (by rw [put_size, ha]; exact l1)
      · have hoe : o = o2 := by simpa using ho.symm
        rw [hoe, dst2] at hdj
        have hte : t = d2 := by injection hdj with hdj; exact hdj.symm
        rw [hte]
        refine ⟨?_, by simp only [List.getD_cons_zero, List.getD_cons_succ, Sp.eq_holds]⟩
        simp only [List.getD_cons_zero, List.getD_cons_succ]
        rw [put_get_ne _ _ (by simpa using Ne.symm n23)]
        exact put_get_eq _ _ (by rw [put_size, put_size, ha]; exact l2)
      · have hoe : o = o3 := by simpa using ho.symm
        rw [hoe, dst3] at hdj
        have hte : t = d3 := by injection hdj with hdj; exact hdj.symm
        rw [hte]
        refine ⟨?_, by simp only [List.getD_cons_zero, List.getD_cons_succ, Sp.eq_holds]⟩
        simp only [List.getD_cons_zero, List.getD_cons_succ]
        exact put_get_eq _ _ (by rw [put_size, put_size, put_size, ha]; exact l3)
  -- the first call, the second move already made
  have mid : wpAny P .any l.toArray Q (n + 2) (true :: false :: true :: false :: List.replicate n false).toArray ((a.put (some d0) (a.eval x0)).put (some d2) (a.eval x2)) w.drew := by
    refine ⟨(fun h0 => by rw [r4] at h0; cases h0), fun i hi => ?_⟩
    rw [r4] at hi
    obtain rfl : i = 1 := by simpa using hi
    refine wpOp_plain at1 gd1 (wp_callf op1 hf1.1 hf1.2.1 hf1.2.2 ?_)
    rw [eval_put_ne (by simpa using n02), eval_put_eq (by rw [ha]; exact l0)]
    refine h.mono ?_
    rintro e w1 ⟨v1, rfl, hc⟩
    refine ⟨v1, rfl, ?_⟩
    rw [dst1, List.setIfInBounds_toArray]
    simp only [List.set_cons_zero, List.set_cons_succ]
    rw [← put_swap n12]
    exact last v1 w1 hc
  refine ⟨(fun h0 => by rw [r0] at h0; cases h0), fun i hi => ?_⟩
  rw [r0] at hi
  have hi' : i = 0 ∨ i = 2 := by simpa using hi
  rcases hi' with rfl | rfl
  · refine wpOp_plain at0 gd0 (wp_move op0 ?_)
    rw [dst0, List.setIfInBounds_toArray]
    simp only [List.set_cons_zero]
    refine ⟨(fun h0 => by rw [r1] at h0; cases h0), fun i hi => ?_⟩
    rw [r1] at hi
    have hi' : i = 1 ∨ i = 2 := by simpa using hi
    rcases hi' with rfl | rfl
    · refine wpOp_plain at1 gd1 (wp_callf op1 hf1.1 hf1.2.1 hf1.2.2 ?_)
      rw [eval_put_eq (by rw [ha]; exact l0)]
      refine h.mono ?_
      rintro e w1 ⟨v1, rfl, hc⟩
      refine ⟨v1, rfl, ?_⟩
      rw [dst1, List.setIfInBounds_toArray]
      simp only [List.set_cons_zero, List.set_cons_succ]
      refine ⟨(fun h0 => by rw [r3] at h0; cases h0), fun i hi => ?_⟩
      rw [r3] at hi
      obtain rfl : i = 2 := by simpa using hi
      refine wpOp_plain at2 gd2 (wp_move op2 ?_)
      rw [dst2, List.setIfInBounds_toArray, eval_put_ne hx2.2, eval_put_ne hx2.1]
      simp only [List.set_cons_zero, List.set_cons_succ]
      exact last v1 w1 hc
    · refine wpOp_plain at2 gd2 (wp_move op2 ?_)
      rw [dst2, List.setIfInBounds_toArray, eval_put_ne hx2.1]
      simp only [List.set_cons_zero, List.set_cons_succ]
      exact mid
  · refine wpOp_plain at2 gd2 (wp_move op2 ?_)
    rw [dst2, List.setIfInBounds_toArray]
    simp only [List.set_cons_zero, List.set_cons_succ]
    refine ⟨(fun h0 => by rw [r2] at h0; cases h0), fun i hi => ?_⟩
    rw [r2] at hi
    obtain rfl : i = 0 := by simpa using hi
    refine wpOp_plain at0 gd0 (wp_move op0 ?_)
    rw [dst0, List.setIfInBounds_toArray, eval_put_ne hx0, put_swap (Ne.symm n02)]
    simp only [List.set_cons_zero]
    exact mid
end
end Go.Proofs.YtldoedmclfbgpaaDoor
