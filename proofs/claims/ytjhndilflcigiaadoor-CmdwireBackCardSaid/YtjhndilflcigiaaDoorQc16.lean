/-
  Lemmas (walks and plain laws), in one text.
-/
import Derived.Test.YtjhndilflcigiaaDoorQc15
import Derived.Test.YtjhndilflcigiaaDoorRows
import Derived.WalkKit
import Derived.WalkSpells
import Derived.WalkLawsBesides
import Derived.Lib.Hide
import Derived.Deep.QuietTactic
import Derived.BigQuiet
import Derived.Maps.AppendAt
import Derived.WalkSmall
import Derived.ProofKit
import Derived.OpenShut
import Derived.JoinedCond
import Derived.Deep.Slices
import Derived.Deep.Fields
import Derived.Carry
import Derived.Deep.AppendSrc
import Derived.Lib.AppendStr
import Derived.Laws.BytesArg
import Derived.Test.YtjhndilflcigiaaDoorProg
import Derived.Shelf.Spec.TrailingZeros
import Derived.RangeFuncNested
import Derived.RangeFuncBound
import Derived.RangeFuncCalls
import Derived.RangeFuncLeaves
import Derived.Shelf.Abstract
import Derived.Shelf.RegionOpen
import Derived.OwnWalkIn
import Derived.TacticsInMore
import Derived.LoopNIn
import Derived.LoopIn
import Derived.Test.YtjhndilflcigiaaDoorTie
import Derived.Lib.LaidTab
import Derived.LaidMore
import Derived.SevenTiedAt
import Derived.Test.YtjhndilflcigiaaDoorCards
import Derived.Laws.Tables
import Derived.Laws.Rows
import Derived.ChangeKeysEq
import Derived.Laws.StructEq
import Derived.Deep.CutBlock
import Derived.Deep.DeepCutAuto
import Derived.Laws.CopyOwn
import Derived.Outline
import Derived.IntWalk
import Derived.Lib.EndianBits
import Derived.StillTail
import Derived.Lib.AppendZeros
import Derived.Deep.Quiet
import Derived.Maps.Own
import Derived.WalkMore
namespace Go.Proofs.YtjhndilflcigiaaDoor
open Go.RowKit

theorem Blk.three {w : World} {g : Nat} {a b c : Value} (h : Blk w g #[a, b, c]) : w.cell? ⟨g, 0, none⟩ = some a ∧ w.cell? ⟨g, 1, none⟩ = some b ∧ w.cell? ⟨g, 2, none⟩ = some c ∧ ∀ i, w.frozen? ⟨g, i, none⟩ = false :=
  ⟨h.cell rfl, h.cell rfl, h.cell rfl, fun i => h.frozen i⟩
theorem RdP.own {w w' : World} {p : Option Nat} {st : Rd} {b : Nat} (r : RdP w p st) (k : Kept (some b) w.heap.size w w') (hb : ∀ g, p = some g → g < b) : RdP w' p st :=
  r.kept k (fun g h hg hh => by injection hh with hh; subst hh; exact hb g hg)
theorem RdP.up {w w' : World} {p : Option Nat} {st : Rd} {B : Nat} (r : RdP w p st) (k : Below B w w') (hb : ∀ g, p = some g → g < B) : RdP w' p st := by
  rcases r with ⟨rfl, hs⟩ | ⟨g, A, c, L, pos, rfl, ⟨h1, h2, h3, h4, h5, h6⟩, hs⟩
  · exact .inl ⟨rfl, hs⟩
  · have hg := hb g rfl
    exact .inr ⟨g, A, c, L, pos, rfl, ⟨h1.below k hg, h2, h3, h4, h5, h6.imp id fun ⟨b, off, hA, hbg, hr⟩ => ⟨b, off, hA, hbg, hr.belowB k (by omega)⟩⟩, hs⟩
theorem RdR.up {w w' : World} {h : Nat} {st : Rd} {B : Nat} (r : RdR w h st) (k : Below B w w') (hb : h < B) : RdR w' h st := ⟨r.1.below k hb, r.2⟩
theorem ne_of_lt {p : Option Nat} {n b : Nat} (h : ∀ g, p = some g → g < n) (hb : n ≤ b) : p ≠ some b := fun e => by have := h b e; omega
set_option maxHeartbeats 2000000 in
set_option maxRecDepth 4000 in
theorem c_cardwire_Value (p : Option Nat) (st : Rd) (w : World) (h : RdP w p st) : Calls Tryd.prog 161 #[ptr p] w (RetP p (rdVal' st) w (rdVal st).val) := by
  unfold Val.val
  have hpl := fun g (hg : p = some g) => h.lt hg
  rcases rdN2_cases st with h0 | h0 | h0
  · have h1 := rdVal'_0 h0
    by_cases he : (rdN' st 2).e = 0
    · have hb : ((rdN' st 2).e != 0) = false := by simpa using he
      have hv := rdVal_0 (by rw [h1]; exact he) h0
      rw [h1, hv]
      have H0 := Lib.hid h0
      clear he hv h1 h0
      go_enter Tryd.func161, Tryd.ntmps161
      go_wp2_with (fail)
      refine (c_octet_RNum p st 2 _ (h.below ((Below.refl _ _).alloc (Nat.le_refl _) _))).mono ?_
      rintro e w1 ⟨rfl, hr1, hk1⟩
      rw [H0.out]
      have hz1 := hk1.size
      simp only [World.size_alloc] at hz1
      have B0 := Lib.hid ((Blk.new w 24 #[.int .i64 0, .int .i64 0, .string (str [])]).kept hk1 (by simp) (ne_of_lt hpl (Nat.le_refl _)))
      go_wp2_with (fail)
      refine (c_octet_Err p (rdN' st 2) _ (hr1.below ((Below.refl _ _).alloc (Nat.le_refl _) _))).mono ?_
      rintro e w2 ⟨rfl, hr2, hk2⟩
      have hz2 := hk2.size
      simp only [World.size_alloc] at hz2
      obtain ⟨a0, a1, a2, af⟩ := ((B0.out.below ((Below.refl _ _).alloc (Nat.le_refl _) _) B0.out.lt).kept hk2 (by simp; omega) (ne_of_lt hpl (Nat.le_refl _))).three
      obtain ⟨b0, b1, b2, bf⟩ := ((Blk.new w1 24 #[.int .i64 0, .int .i64 0, .string (str [])]).kept hk2 (by simp) (ne_of_lt hpl (by omega))).three
      go_wp2_with (fail)
      refine bodyPost_ret (v := .agg #[.int .i64 0, .int .i64 0, .string (str [])]) (by simp [results, Tryd.results161, go_sem, a0, a1, a2]) rfl ⟨rfl, hr2.own (b := w.heap.size) (by repeat (first | exact Kept.refl _ _ _ | refine Kept.drew ?_ | refine Kept.alloc ?_ (by first | omega | (simp; done) | (simp; omega)) _ | refine Kept.setCell ?_ (by first | (right; rfl) | (left; first | omega | (simp; done) | (simp; omega))) _ | refine Kept.then_kept ?_ (by assumption) (by first | omega | (simp; done) | (simp; omega)) | refine Kept.then_below ?_ (by assumption) (by first | omega | (simp; done) | (simp; omega)) | refine Kept.low ?_ (by assumption))) hpl, (by repeat (first | exact Kept.refl _ _ _ | refine Kept.drew ?_ | refine Kept.alloc ?_ (by first | omega | (simp; done) | (simp; omega)) _ | refine Kept.setCell ?_ (by first | (right; rfl) | (left; first | omega | (simp; done) | (simp; omega))) _ | refine Kept.then_kept ?_ (by assumption) (by first | omega | (simp; done) | (simp; omega)) | refine Kept.then_below ?_ (by assumption) (by first | omega | (simp; done) | (simp; omega)) | refine Kept.low ?_ (by assumption)))⟩
    · have hb : ((rdN' st 2).e != 0) = true := by simpa using he
      have hv := rdVal_bad (by rw [h1]; exact he)
      rw [h1, hv]
      have H0 := Lib.hid h0
      clear he hv h1 h0
      go_enter Tryd.func161, Tryd.ntmps161
      go_wp2_with (fail)
      refine (c_octet_RNum p st 2 _ (h.below ((Below.refl _ _).alloc (Nat.le_refl _) _))).mono ?_
      rintro e w1 ⟨rfl, hr1, hk1⟩
      rw [H0.out]
      have hz1 := hk1.size
      simp only [World.size_alloc] at hz1
      have B0 := Lib.hid ((Blk.new w 24 #[.int .i64 0, .int .i64 0, .string (str [])]).kept hk1 (by simp) (ne_of_lt hpl (Nat.le_refl _)))
      go_wp2_with (fail)
      refine (c_octet_Err p (rdN' st 2) _ (hr1.below ((Below.refl _ _).alloc (Nat.le_refl _) _))).mono ?_
      rintro e w2 ⟨rfl, hr2, hk2⟩
      have hz2 := hk2.size
      simp only [World.size_alloc] at hz2
      obtain ⟨a0, a1, a2, af⟩ := ((B0.out.below ((Below.refl _ _).alloc (Nat.le_refl _) _) B0.out.lt).kept hk2 (by simp; omega) (ne_of_lt hpl (Nat.le_refl _))).three
      obtain ⟨b0, b1, b2, bf⟩ := ((Blk.new w1 24 #[.int .i64 0, .int .i64 0, .string (str [])]).kept hk2 (by simp) (ne_of_lt hpl (by omega))).three
      go_wp2_with (fail)
      refine bodyPost_ret (v := .agg #[.int .i64 0, .int .i64 0, .string (str [])]) (by simp [results, Tryd.results161, go_sem, a0, a1, a2]) rfl ⟨rfl, hr2.own (b := w.heap.size) (by repeat (first | exact Kept.refl _ _ _ | refine Kept.drew ?_ | refine Kept.alloc ?_ (by first | omega | (simp; done) | (simp; omega)) _ | refine Kept.setCell ?_ (by first | (right; rfl) | (left; first | omega | (simp; done) | (simp; omega))) _ | refine Kept.then_kept ?_ (by assumption) (by first | omega | (simp; done) | (simp; omega)) | refine Kept.then_below ?_ (by assumption) (by first | omega | (simp; done) | (simp; omega)) | refine Kept.low ?_ (by assumption))) hpl, (by repeat (first | exact Kept.refl _ _ _ | refine Kept.drew ?_ | refine Kept.alloc ?_ (by first | omega | (simp; done) | (simp; omega)) _ | refine Kept.setCell ?_ (by first | (right; rfl) | (left; first | omega | (simp; done) | (simp; omega))) _ | refine Kept.then_kept ?_ (by assumption) (by first | omega | (simp; done) | (simp; omega)) | refine Kept.then_below ?_ (by assumption) (by first | omega | (simp; done) | (simp; omega)) | refine Kept.low ?_ (by assumption)))⟩
  · have h1 := rdVal'_1 h0
    by_cases he : (rdN' (rdN' st 2) 1099511627776).e = 0
    · have hb : ((rdN' (rdN' st 2) 1099511627776).e != 0) = false := by simpa using he
      have hv := rdVal_1 (by rw [h1]; exact he) h0
      rw [h1, hv]
      have H0 := Lib.hid h0
      clear he hv h1 h0
      go_enter Tryd.func161, Tryd.ntmps161
      go_wp2_with (fail)
      refine (c_octet_RNum p st 2 _ (h.below ((Below.refl _ _).alloc (Nat.le_refl _) _))).mono ?_
      rintro e w1 ⟨rfl, hr1, hk1⟩
      rw [H0.out]
      have hz1 := hk1.size
      simp only [World.size_alloc] at hz1
      have B0 := Lib.hid ((Blk.new w 24 #[.int .i64 0, .int .i64 0, .string (str [])]).kept hk1 (by simp) (ne_of_lt hpl (Nat.le_refl _)))
      go_wp2_with (fail)
      refine (c_octet_RNum p (rdN' st 2) 1099511627776 _ (hr1.below ((Below.refl _ _).alloc (Nat.le_refl _) _))).mono ?_
      rintro e w2 ⟨rfl, hr2, hk2⟩
      have hz2 := hk2.size
      simp only [World.size_alloc] at hz2
      have B1 := Lib.hid ((B0.out.below ((Below.refl _ _).alloc (Nat.le_refl _) _) B0.out.lt).kept hk2 (by simp; omega) (ne_of_lt hpl (Nat.le_refl _)))
      have C1 := Lib.hid ((Blk.new w1 24 #[.int .i64 1, .int .i64 0, .string (str [])]).kept hk2 (by simp) (ne_of_lt hpl (by omega)))
      obtain ⟨b0, b1, b2, bf⟩ := C1.out.three
      go_wp2_with (fail)
      refine (c_octet_Err p (rdN' (rdN' st 2) 1099511627776) _ (hr2.own (b := w1.heap.size) (by repeat (first | exact Kept.refl _ _ _ | refine Kept.drew ?_ | refine Kept.alloc ?_ (by first | omega | (simp; done) | (simp; omega)) _ | refine Kept.setCell ?_ (by first | (right; rfl) | (left; first | omega | (simp; done) | (simp; omega))) _ | refine Kept.then_kept ?_ (by assumption) (by first | omega | (simp; done) | (simp; omega)) | refine Kept.then_below ?_ (by assumption) (by first | omega | (simp; done) | (simp; omega)) | refine Kept.low ?_ (by assumption))) (fun g hg => by have := hpl g hg; omega))).mono ?_
      rintro e w3 ⟨rfl, hr3, hk3⟩
      have hz3 := hk3.size
      have hz3' : w2.heap.size ≤ w3.heap.size := by simpa [World.setCell] using hz3
      clear b0 b1 b2 bf hz3
      obtain ⟨a0, a1, a2, af⟩ := ((B1.out.far (q := ⟨w1.heap.size, 1, none⟩) (by simp; omega) _).kept hk3 (by simp [World.setCell]; omega) (ne_of_lt hpl (Nat.le_refl _))).three
      obtain ⟨b0, b1, b2, bf⟩ := (((C1.out.store 1 (.int .i64 (rdN (rdN' st 2) 1099511627776))).kept hk3 (by simp [World.setCell]; omega) (ne_of_lt hpl (by omega)) : Blk w3 w1.heap.size #[.int .i64 1, .int .i64 (rdN (rdN' st 2) 1099511627776), .string (str [])])).three
      go_wp2_with (fail)
      refine bodyPost_ret (v := .agg #[.int .i64 1, .int .i64 (rdN (rdN' st 2) 1099511627776), .string (str [])]) (by simp [results, Tryd.results161, go_sem, a0, a1, a2]) rfl ⟨rfl, hr3.own (b := w.heap.size) (by repeat (first | exact Kept.refl _ _ _ | refine Kept.drew ?_ | refine Kept.alloc ?_ (by first | omega | (simp; done) | (simp; omega)) _ | refine Kept.setCell ?_ (by first | (right; rfl) | (left; first | omega | (simp; done) | (simp; omega))) _ | refine Kept.then_kept ?_ (by assumption) (by first | omega | (simp; done) | (simp; omega)) | refine Kept.then_below ?_ (by assumption) (by first | omega | (simp; done) | (simp; omega)) | refine Kept.low ?_ (by assumption))) hpl, (by repeat (first | exact Kept.refl _ _ _ | refine Kept.drew ?_ | refine Kept.alloc ?_ (by first | omega | (simp; done) | (simp; omega)) _ | refine Kept.setCell ?_ (by first | (right; rfl) | (left; first | omega | (simp; done) | (simp; omega))) _ | refine Kept.then_kept ?_ (by assumption) (by first | omega | (simp; done) | (simp; omega)) | refine Kept.then_below ?_ (by assumption) (by first | omega | (simp; done) | (simp; omega)) | refine Kept.low ?_ (by assumption)))⟩
    · have hb : ((rdN' (rdN' st 2) 1099511627776).e != 0) = true := by simpa using he
      have hv := rdVal_bad (by rw [h1]; exact he)
      rw [h1, hv]
      have H0 := Lib.hid h0
      clear he hv h1 h0
      go_enter Tryd.func161, Tryd.ntmps161
      go_wp2_with (fail)
      refine (c_octet_RNum p st 2 _ (h.below ((Below.refl _ _).alloc (Nat.le_refl _) _))).mono ?_
      rintro e w1 ⟨rfl, hr1, hk1⟩
      rw [H0.out]
      have hz1 := hk1.size
      simp only [World.size_alloc] at hz1
      have B0 := Lib.hid ((Blk.new w 24 #[.int .i64 0, .int .i64 0, .string (str [])]).kept hk1 (by simp) (ne_of_lt hpl (Nat.le_refl _)))
      go_wp2_with (fail)
      refine (c_octet_RNum p (rdN' st 2) 1099511627776 _ (hr1.below ((Below.refl _ _).alloc (Nat.le_refl _) _))).mono ?_
      rintro e w2 ⟨rfl, hr2, hk2⟩
      have hz2 := hk2.size
      simp only [World.size_alloc] at hz2
      have B1 := Lib.hid ((B0.out.below ((Below.refl _ _).alloc (Nat.le_refl _) _) B0.out.lt).kept hk2 (by simp; omega) (ne_of_lt hpl (Nat.le_refl _)))
      have C1 := Lib.hid ((Blk.new w1 24 #[.int .i64 1, .int .i64 0, .string (str [])]).kept hk2 (by simp) (ne_of_lt hpl (by omega)))
      obtain ⟨b0, b1, b2, bf⟩ := C1.out.three
      go_wp2_with (fail)
      refine (c_octet_Err p (rdN' (rdN' st 2) 1099511627776) _ (hr2.own (b := w1.heap.size) (by repeat (first | exact Kept.refl _ _ _ | refine Kept.drew ?_ | refine Kept.alloc ?_ (by first | omega | (simp; done) | (simp; omega)) _ | refine Kept.setCell ?_ (by first | (right; rfl) | (left; first | omega | (simp; done) | (simp; omega))) _ | refine Kept.then_kept ?_ (by assumption) (by first | omega | (simp; done) | (simp; omega)) | refine Kept.then_below ?_ (by assumption) (by first | omega | (simp; done) | (simp; omega)) | refine Kept.low ?_ (by assumption))) (fun g hg => by have := hpl g hg; omega))).mono ?_
      rintro e w3 ⟨rfl, hr3, hk3⟩
      have hz3 := hk3.size
      have hz3' : w2.heap.size ≤ w3.heap.size := by simpa [World.setCell] using hz3
      clear b0 b1 b2 bf hz3
      obtain ⟨a0, a1, a2, af⟩ := ((B1.out.far (q := ⟨w1.heap.size, 1, none⟩) (by simp; omega) _).kept hk3 (by simp [World.setCell]; omega) (ne_of_lt hpl (Nat.le_refl _))).three
      obtain ⟨b0, b1, b2, bf⟩ := (((C1.out.store 1 (.int .i64 (rdN (rdN' st 2) 1099511627776))).kept hk3 (by simp [World.setCell]; omega) (ne_of_lt hpl (by omega)) : Blk w3 w1.heap.size #[.int .i64 1, .int .i64 (rdN (rdN' st 2) 1099511627776), .string (str [])])).three
      go_wp2_with (fail)
      refine bodyPost_ret (v := .agg #[.int .i64 0, .int .i64 0, .string (str [])]) (by simp [results, Tryd.results161, go_sem, a0, a1, a2]) rfl ⟨rfl, hr3.own (b := w.heap.size) (by repeat (first | exact Kept.refl _ _ _ | refine Kept.drew ?_ | refine Kept.alloc ?_ (by first | omega | (simp; done) | (simp; omega)) _ | refine Kept.setCell ?_ (by first | (right; rfl) | (left; first | omega | (simp; done) | (simp; omega))) _ | refine Kept.then_kept ?_ (by assumption) (by first | omega | (simp; done) | (simp; omega)) | refine Kept.then_below ?_ (by assumption) (by first | omega | (simp; done) | (simp; omega)) | refine Kept.low ?_ (by assumption))) hpl, (by repeat (first | exact Kept.refl _ _ _ | refine Kept.drew ?_ | refine Kept.alloc ?_ (by first | omega | (simp; done) | (simp; omega)) _ | refine Kept.setCell ?_ (by first | (right; rfl) | (left; first | omega | (simp; done) | (simp; omega))) _ | refine Kept.then_kept ?_ (by assumption) (by first | omega | (simp; done) | (simp; omega)) | refine Kept.then_below ?_ (by assumption) (by first | omega | (simp; done) | (simp; omega)) | refine Kept.low ?_ (by assumption)))⟩
  · have h1 := rdVal'_2 h0
    by_cases he : (rdS' (rdN' st 2) 24).e = 0
    · have hb : ((rdS' (rdN' st 2) 24).e != 0) = false := by simpa using he
      have hv := rdVal_2 (by rw [h1]; exact he) h0
      rw [h1, hv]
      have H0 := Lib.hid h0
      clear he hv h1 h0
      go_enter Tryd.func161, Tryd.ntmps161
      go_wp2_with (fail)
      refine (c_octet_RNum p st 2 _ (h.below ((Below.refl _ _).alloc (Nat.le_refl _) _))).mono ?_
      rintro e w1 ⟨rfl, hr1, hk1⟩
      rw [H0.out]
      have hz1 := hk1.size
      simp only [World.size_alloc] at hz1
      have B0 := Lib.hid ((Blk.new w 24 #[.int .i64 0, .int .i64 0, .string (str [])]).kept hk1 (by simp) (ne_of_lt hpl (Nat.le_refl _)))
      go_wp2_with (fail)
      refine (c_octet_RStr p (rdN' st 2) 24 _ (hr1.below ((Below.refl _ _).alloc (Nat.le_refl _) _))).mono ?_
      rintro e w2 ⟨rfl, hr2, hk2⟩
      have hz2 := hk2.size
      simp only [World.size_alloc] at hz2
      have B1 := Lib.hid ((B0.out.below ((Below.refl _ _).alloc (Nat.le_refl _) _) B0.out.lt).kept hk2 (by simp; omega) (ne_of_lt hpl (Nat.le_refl _)))
      have C1 := Lib.hid ((Blk.new w1 24 #[.int .i64 2, .int .i64 0, .string (str [])]).kept hk2 (by simp) (ne_of_lt hpl (by omega)))
      obtain ⟨b0, b1, b2, bf⟩ := C1.out.three
      go_wp2_with (fail)
      refine (c_octet_Err p (rdS' (rdN' st 2) 24) _ (hr2.own (b := w1.heap.size) (by repeat (first | exact Kept.refl _ _ _ | refine Kept.drew ?_ | refine Kept.alloc ?_ (by first | omega | (simp; done) | (simp; omega)) _ | refine Kept.setCell ?_ (by first | (right; rfl) | (left; first | omega | (simp; done) | (simp; omega))) _ | refine Kept.then_kept ?_ (by assumption) (by first | omega | (simp; done) | (simp; omega)) | refine Kept.then_below ?_ (by assumption) (by first | omega | (simp; done) | (simp; omega)) | refine Kept.low ?_ (by assumption))) (fun g hg => by have := hpl g hg; omega))).mono ?_
      rintro e w3 ⟨rfl, hr3, hk3⟩
      have hz3 := hk3.size
      have hz3' : w2.heap.size ≤ w3.heap.size := by simpa [World.setCell] using hz3
      clear b0 b1 b2 bf hz3
      obtain ⟨a0, a1, a2, af⟩ := ((B1.out.far (q := ⟨w1.heap.size, 2, none⟩) (by simp; omega) _).kept hk3 (by simp [World.setCell]; omega) (ne_of_lt hpl (Nat.le_refl _))).three
      obtain ⟨b0, b1, b2, bf⟩ := (((C1.out.store 2 (.string (str (rdS (rdN' st 2) 24)))).kept hk3 (by simp [World.setCell]; omega) (ne_of_lt hpl (by omega)) : Blk w3 w1.heap.size #[.int .i64 2, .int .i64 0, .string (str (rdS (rdN' st 2) 24))])).three
      go_wp2_with (fail)
      refine bodyPost_ret (v := .agg #[.int .i64 2, .int .i64 0, .string (str (rdS (rdN' st 2) 24))]) (by simp [results, Tryd.results161, go_sem, a0, a1, a2]) rfl ⟨rfl, hr3.own (b := w.heap.size) (by repeat (first | exact Kept.refl _ _ _ | refine Kept.drew ?_ | refine Kept.alloc ?_ (by first | omega | (simp; done) | (simp; omega)) _ | refine Kept.setCell ?_ (by first | (right; rfl) | (left; first | omega | (simp; done) | (simp; omega))) _ | refine Kept.then_kept ?_ (by assumption) (by first | omega | (simp; done) | (simp; omega)) | refine Kept.then_below ?_ (by assumption) (by first | omega | (simp; done) | (simp; omega)) | refine Kept.low ?_ (by assumption))) hpl, (by repeat (first | exact Kept.refl _ _ _ | refine Kept.drew ?_ | refine Kept.alloc ?_ (by first | omega | (simp; done) | (simp; omega)) _ | refine Kept.setCell ?_ (by first | (right; rfl) | (left; first | omega | (simp; done) | (simp; omega))) _ | refine Kept.then_kept ?_ (by assumption) (by first | omega | (simp; done) | (simp; omega)) | refine Kept.then_below ?_ (by assumption) (by first | omega | (simp; done) | (simp; omega)) | refine Kept.low ?_ (by assumption)))⟩
    · have hb : ((rdS' (rdN' st 2) 24).e != 0) = true := by simpa using he
      have hv := rdVal_bad (by rw [h1]; exact he)
      rw [h1, hv]
      have H0 := Lib.hid h0
      clear he hv h1 h0
      go_enter Tryd.func161, Tryd.ntmps161
      go_wp2_with (fail)
      refine (c_octet_RNum p st 2 _ (h.below ((Below.refl _ _).alloc (Nat.le_refl _) _))).mono ?_
      rintro e w1 ⟨rfl, hr1, hk1⟩
      rw [H0.out]
      have hz1 := hk1.size
      simp only [World.size_alloc] at hz1
      have B0 := Lib.hid ((Blk.new w 24 #[.int .i64 0, .int .i64 0, .string (str [])]).kept hk1 (by simp) (ne_of_lt hpl (Nat.le_refl _)))
      go_wp2_with (fail)
      refine (c_octet_RStr p (rdN' st 2) 24 _ (hr1.below ((Below.refl _ _).alloc (Nat.le_refl _) _))).mono ?_
      rintro e w2 ⟨rfl, hr2, hk2⟩
      have hz2 := hk2.size
      simp only [World.size_alloc] at hz2
      have B1 := Lib.hid ((B0.out.below ((Below.refl _ _).alloc (Nat.le_refl _) _) B0.out.lt).kept hk2 (by simp; omega) (ne_of_lt hpl (Nat.le_refl _)))
      have C1 := Lib.hid ((Blk.new w1 24 #[.int .i64 2, .int .i64 0, .string (str [])]).kept hk2 (by simp) (ne_of_lt hpl (by omega)))
      obtain ⟨b0, b1, b2, bf⟩ := C1.out.three
      go_wp2_with (fail)
      refine (c_octet_Err p (rdS' (rdN' st 2) 24) _ (hr2.own (b := w1.heap.size) (by repeat (first | exact Kept.refl _ _ _ | refine Kept.drew ?_ | refine Kept.alloc ?_ (by first | omega | (simp; done) | (simp; omega)) _ | refine Kept.setCell ?_ (by first | (right; rfl) | (left; first | omega | (simp; done) | (simp; omega))) _ | refine Kept.then_kept ?_ (by assumption) (by first | omega | (simp; done) | (simp; omega)) | refine Kept.then_below ?_ (by assumption) (by first | omega | (simp; done) | (simp; omega)) | refine Kept.low ?_ (by assumption))) (fun g hg => by have := hpl g hg; omega))).mono ?_
      rintro e w3 ⟨rfl, hr3, hk3⟩
      have hz3 := hk3.size
      have hz3' : w2.heap.size ≤ w3.heap.size := by simpa [World.setCell] using hz3
      clear b0 b1 b2 bf hz3
      obtain ⟨a0, a1, a2, af⟩ := ((B1.out.far (q := ⟨w1.heap.size, 2, none⟩) (by simp; omega) _).kept hk3 (by simp [World.setCell]; omega) (ne_of_lt hpl (Nat.le_refl _))).three
      obtain ⟨b0, b1, b2, bf⟩ := (((C1.out.store 2 (.string (str (rdS (rdN' st 2) 24)))).kept hk3 (by simp [World.setCell]; omega) (ne_of_lt hpl (by omega)) : Blk w3 w1.heap.size #[.int .i64 2, .int .i64 0, .string (str (rdS (rdN' st 2) 24))])).three
      go_wp2_with (fail)
      refine bodyPost_ret (v := .agg #[.int .i64 0, .int .i64 0, .string (str [])]) (by simp [results, Tryd.results161, go_sem, a0, a1, a2]) rfl ⟨rfl, hr3.own (b := w.heap.size) (by repeat (first | exact Kept.refl _ _ _ | refine Kept.drew ?_ | refine Kept.alloc ?_ (by first | omega | (simp; done) | (simp; omega)) _ | refine Kept.setCell ?_ (by first | (right; rfl) | (left; first | omega | (simp; done) | (simp; omega))) _ | refine Kept.then_kept ?_ (by assumption) (by first | omega | (simp; done) | (simp; omega)) | refine Kept.then_below ?_ (by assumption) (by first | omega | (simp; done) | (simp; omega)) | refine Kept.low ?_ (by assumption))) hpl, (by repeat (first | exact Kept.refl _ _ _ | refine Kept.drew ?_ | refine Kept.alloc ?_ (by first | omega | (simp; done) | (simp; omega)) _ | refine Kept.setCell ?_ (by first | (right; rfl) | (left; first | omega | (simp; done) | (simp; omega))) _ | refine Kept.then_kept ?_ (by assumption) (by first | omega | (simp; done) | (simp; omega)) | refine Kept.then_below ?_ (by assumption) (by first | omega | (simp; done) | (simp; omega)) | refine Kept.low ?_ (by assumption)))⟩
end Go.Proofs.YtjhndilflcigiaaDoor
namespace Go.Proofs.YtjhndilflcigiaaDoor
open Go.RowKit

def belowOf (op : Int) : Int := if op = 3 ∨ op = 4 then 16 else 8
def ndA (st : Rd) : Rd := if rdN st 12 = 0 then rdF (rdN' st 12) 3 else rdN' st 12
def ndN (st : Rd) : Int := if named (rdN st 12) then rdN (ndA st) (belowOf (rdN st 12) - 1) else 0
def ndB (st : Rd) : Rd := if named (rdN st 12) then rdN' (ndA st) (belowOf (rdN st 12) - 1) else ndA st
def ndV (st : Rd) : Val := if valued (rdN st 12) then rdVal (ndB st) else ⟨0, 0, []⟩
def ndC (st : Rd) : Rd := if valued (rdN st 12) then rdVal' (ndB st) else ndB st
def ndNode (st : Rd) : Node := ⟨rdN st 12, ndN st, ndV st⟩
def ndD (st : Rd) : Rd := if valued (rdN st 12) ∧ (ndNode st).ok = false then rdF (ndC st) 3 else ndC st
def rdNodes : Nat → Rd → List Node
  | 0, _ => []
  | k + 1, st => if st.e = 0 then ndNode st :: rdNodes k (ndD st) else []
def rdNodes' : Nat → Rd → Rd
  | 0, st => st
  | k + 1, st => if st.e = 0 then rdNodes' k (ndD st) else st
def pdA (st : Rd) : Rd := if rdN st 31 = 0 then rdF (rdN' st 31) 3 else rdN' st 31
def pdL (st : Rd) : List Node := rdNodes (rdN st 31).toNat (pdA st)
def pdS (st : Rd) : Rd := rdNodes' (rdN st 31).toNat (pdA st)
@[irreducible] def rdPred (st : Rd) : List Node := if (pdS st).e = 0 ∧ check (pdL st) = 0 then pdL st else []
@[irreducible] def rdPred' (st : Rd) : Rd := if (pdS st).e = 0 then (if check (pdL st) = 0 then pdS st else if check (pdL st) = 5 then ⟨(pdS st).s, 5⟩ else ⟨(pdS st).s, 3⟩) else pdS st

theorem rdNodes'_bad {st : Rd} (h : st.e ≠ 0) : ∀ k, rdNodes' k st = st
  | 0 => rfl
  | k + 1 => by unfold rdNodes'; rw [if_neg h]
theorem rdNodes'_ok {st : Rd} (h : st.e = 0) (k : Nat) : rdNodes' (k + 1) st = rdNodes' k (ndD st) := by rw [rdNodes', if_pos h]
theorem rdNodes_ok {st : Rd} (h : st.e = 0) (k : Nat) : rdNodes (k + 1) st = ndNode st :: rdNodes k (ndD st) := by rw [rdNodes, if_pos h]
theorem named_zero : named 0 = false := by decide
theorem valued_zero : valued 0 = false := by decide
/-- Nothing more is read behind a node without a kind. -/
theorem rdNodes'_none {st : Rd} (h : rdN st 12 = 0) (k : Nat) : rdNodes' (k + 1) st = rdF (rdN' st 12) 3 ∧ (rdF (rdN' st 12) 3).e ≠ 0 := by
  refine ⟨?_, rdF_bad _ (by decide)⟩
  by_cases h0 : st.e = 0
  · rw [rdNodes'_ok h0]
    have hd : ndD st = rdF (rdN' st 12) 3 := by
      unfold ndD ndC ndB ndA
      simp [h, named_zero, valued_zero]
    rw [hd, rdNodes'_bad (rdF_bad _ (by decide))]
  · rw [rdNodes'_bad h0, (rdN_err h0).2, rdF_err h0]
theorem ndA_ok {st : Rd} (h : rdN st 12 ≠ 0) : ndA st = rdN' st 12 := by unfold ndA; rw [if_neg h]
theorem nd_A {st : Rd} (h : rdN st 12 ≠ 0) (h1 : named (rdN st 12) = false) (h2 : valued (rdN st 12) = false) : ndNode st = ⟨rdN st 12, 0, ⟨0, 0, []⟩⟩ ∧ ndD st = rdN' st 12 := by
  unfold ndNode ndD ndC ndB ndN ndV
  simp [h1, h2, ndA_ok h]
theorem nd_B {st : Rd} (h : rdN st 12 ≠ 0) (h1 : named (rdN st 12) = true) (h2 : valued (rdN st 12) = false) :
    ndNode st = ⟨rdN st 12, rdN (rdN' st 12) (belowOf (rdN st 12) - 1), ⟨0, 0, []⟩⟩ ∧ ndD st = rdN' (rdN' st 12) (belowOf (rdN st 12) - 1) := by
  unfold ndNode ndD ndC ndB ndN ndV
  simp [h1, h2, ndA_ok h]
theorem nd_C {st : Rd} (h : rdN st 12 ≠ 0) (h1 : named (rdN st 12) = true) (h2 : valued (rdN st 12) = true) :
    ndNode st = ⟨rdN st 12, rdN (rdN' st 12) (belowOf (rdN st 12) - 1), rdVal (rdN' (rdN' st 12) (belowOf (rdN st 12) - 1))⟩ ∧
    ndD st = if (ndNode st).ok = false then rdF (rdVal' (rdN' (rdN' st 12) (belowOf (rdN st 12) - 1))) 3 else rdVal' (rdN' (rdN' st 12) (belowOf (rdN st 12) - 1)) := by
  simp [ndD, ndNode, ndC, ndB, ndN, ndV, h1, h2, ndA_ok h]
theorem belowOf_bd (op : Int) : 8 ≤ belowOf op ∧ belowOf op ≤ 16 := by unfold belowOf; split <;> omega
theorem rdNodes_len : ∀ k st, (rdNodes k st).length ≤ k
  | 0, _ => by simp [rdNodes]
  | k + 1, st => by
    have := rdNodes_len k (ndD st)
    unfold rdNodes; split <;> simp; omega
theorem rdVal_len (st : Rd) : (rdVal st).s.length ≤ 24 := by
  unfold rdVal
  split
  · simp only
    split
    · have := rdS_len (rdN' st 2) 24
      rcases this.2.1 with h | h
      · omega
      · rw [h]; simp
    · simp
  · simp
theorem ndV_len (st : Rd) : (ndNode st).v.s.length ≤ 24 := by
  unfold ndNode ndV
  simp only
  split
  · exact rdVal_len _
  · simp
theorem rdNodes_texts : ∀ k st, ∀ x ∈ rdNodes k st, x.v.s.length ≤ 24
  | 0, _, x, hx => by simp [rdNodes] at hx
  | k + 1, st, x, hx => by
    unfold rdNodes at hx
    split at hx
    · rcases List.mem_cons.1 hx with rfl | hx
      · exact ndV_len st
      · exact rdNodes_texts k _ x hx
    · simp at hx
theorem pdL_len (st : Rd) : (pdL st).length ≤ 31 := by
  have h1 := rdNodes_len (rdN st 31).toNat (pdA st)
  have h2 := rdN_bd st 31
  unfold pdL; omega
theorem check_cases {l : List Node} (h : l.length ≤ 31) : check l = 0 ∨ check l = 1 ∨ check l = 5 := by
  unfold check
  rw [if_neg (by omega)]
  split
  · simp
  · split
    · simp
    · split <;> simp
theorem rdPred_bad {st : Rd} (h : (pdS st).e ≠ 0) : rdPred st = [] ∧ rdPred' st = pdS st := by unfold rdPred rdPred'; rw [if_neg (fun k => h k.1), if_neg h]; exact ⟨rfl, rfl⟩
theorem rdPred_ok {st : Rd} (h : (pdS st).e = 0) (hc : check (pdL st) = 0) : rdPred st = pdL st ∧ rdPred' st = pdS st := by unfold rdPred rdPred'; rw [if_pos ⟨h, hc⟩, if_pos h, if_pos hc]; exact ⟨rfl, rfl⟩
theorem rdPred_5 {st : Rd} (h : (pdS st).e = 0) (hc : check (pdL st) = 5) : rdPred st = [] ∧ rdPred' st = rdF (pdS st) 5 := by
  unfold rdPred rdPred'; rw [if_neg (fun k => by have := k.2; omega), if_pos h, if_neg (by omega), if_pos hc, rdF_ok h]; exact ⟨rfl, rfl⟩
theorem rdPred_1 {st : Rd} (h : (pdS st).e = 0) (hc : check (pdL st) = 1) : rdPred st = [] ∧ rdPred' st = rdF (pdS st) 3 := by
  unfold rdPred rdPred'; rw [if_neg (fun k => by have := k.2; omega), if_pos h, if_neg (by omega), if_neg (by omega), rdF_ok h]; exact ⟨rfl, rfl⟩

theorem Kept.low {p : Option Nat} {B : Nat} {a w w' : World} (h : Kept p B a w) (k : Below B w w') : Kept p B a w' := h.trans (.of_below k)
/-- What the call owns stays owned while a block of another kind is written. -/
theorem own_far {w : World} {base : Nat} {e : TypeId} {size n : Nat} {v : Value} {xs : List Value} {a : Addr} {u : Value} (h : w.ownsRow base e size v n xs) (hne : v.ownBlock ≠ some a.block) : (w.setCell a u).ownsRow base e size v n xs := by
  obtain ⟨h1, h2⟩ := h
  refine ⟨h1, ?_⟩
  rcases h2 with h2 | ⟨g, cap, cur, hv, hg, hh, r⟩
  · exact .inl h2
  · subst hv
    exact .inr ⟨g, cap, cur, rfl, hg, by rw [Below.heap_setCell _ _ _ _ (fun e => hne (by simp [Value.ownBlock, e]))]; exact hh, r⟩
theorem own_lt {w : World} {base : Nat} {e : TypeId} {size n : Nat} {v : Value} {xs : List Value} (h : w.ownsRow base e size v n xs) {b : Nat} (hb : w.heap.size ≤ b) : v.ownBlock ≠ some b := fun e => by have := (h.lt b e).2; omega
/-! The ends of the calls that read a slice. -/
def RetPS {α : Type} (p : Option Nat) (st' : Rd) (k : Nat) (cs : α → List Value) (et : TypeId) (w : World) (l : List α) (e : Ending) (w' : World) : Prop :=
  ∃ v, e = .returned v ∧ w'.ownsRow w.heap.size et k v l.length (l.flatMap cs) ∧ RdP w' p st' ∧ Kept p w.heap.size w w'
end Go.Proofs.YtjhndilflcigiaaDoor
