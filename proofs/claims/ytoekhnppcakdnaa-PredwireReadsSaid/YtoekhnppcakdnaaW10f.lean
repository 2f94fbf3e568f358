/-
  The walk of the statement PredChecks: it answers true, whatever the list and the place.
-/
import Derived.Test.YtoekhnppcakdnaaW10e
namespace Go.Proofs.Ytoekhnppcakdnaa
open Go.RowKit

theorem InN.lit (w : World) (l : List Node) (t : TypeId) (n : Nat) (hn : n = l.length) (hl : l.length ≤ 4294967296) : InN (w.alloc (.cells (l.flatMap Node.cells).toArray t)) (some ⟨w.heap.size, 0, none⟩) n l := by
  subst hn
  refine ⟨Nat.le_refl _, by omega, hl, .inr ⟨_, 0, rfl, by simp, fun i hi j u hu => ?_⟩⟩
  have hj : j < 5 := by rw [← Node.cells_len l[i]]; exact (List.getElem?_eq_some_iff.1 hu).1
  rw [World.cell?_alloc_new, Nat.zero_add]
  have := flat_get (k := 5) Node.cells_len l i hi j hj
  rw [List.getElem?_toArray, this]; exact hu
def exOk : List Node := [⟨10, 0, ⟨0, 0, []⟩⟩, ⟨3, 3, ⟨0, 0, []⟩⟩]
def exBad : List Node := [⟨11, 0, ⟨0, 0, []⟩⟩, ⟨1, 0, ⟨0, 0, []⟩⟩]
theorem exOk_check : check exOk = 0 := by decide
theorem exOk_depth : depth exOk = 2 := by decide
theorem exBad_check : check exBad = 1 := by decide
set_option maxHeartbeats 1000000 in
theorem c_law10_awake (w : World) : Calls Try.prog 16 #[] w (RetV w (.bool true)) := by
  have x1 := exOk_check
  have x2 := exOk_depth
  have x3 := exBad_check
  have i1 := InN.lit w exOk 29 2 rfl (by decide)
  have h1 : ∀ x ∈ exOk, x.v.s.length ≤ 9223372036854775807 := by decide
  have h3 : ∀ x ∈ exBad, x.v.s.length ≤ 9223372036854775807 := by decide
  have I1 := Lib.hid i1
  have H1 := Lib.hid h1
  have H3 := Lib.hid h3
  clear i1 h1 h3
  go_enter Try.func16, Try.ntmps16
  go_wp2_with (fail)
  refine (c_pred_Check exOk _ 2 _ I1.out H1.out).mono ?_
  rintro e w1 ⟨rfl, hb1⟩
  go_wp2_with (fail)
  refine (c_pred_Depth exOk _ 2 _ (I1.out.below hb1)).mono ?_
  rintro e w2 ⟨rfl, hb2⟩
  go_wp2_with (fail)
  refine (c_pred_Check exBad _ 2 _ (InN.lit w2 exBad 29 2 rfl (by decide)) H3.out).mono ?_
  rintro e w3 ⟨rfl, hb3⟩
  go_wp2_with (fail)
  have hz1 := hb1.size
  have hz2 := hb2.size
  simp only [World.size_alloc] at hz1
  go_ret
  exact RetV.bool rfl (by repeat (first | exact Below.refl _ _ | refine Below.drew ?_ | refine Below.alloc ?_ (by first | omega | (simp; done) | (simp; omega)) _ | refine Below.setCell ?_ (by first | omega | (simp; done) | (simp; omega)) _ | refine Below.trans ?_ (Below.mono (by assumption) (by first | omega | (simp; done) | (simp; omega)))))
set_option maxHeartbeats 2000000 in
theorem c_law10_PredChecks (l : List Node) (A : Option Addr) (c : Nat) (i : Int) (w : World) (h : InN w A c l) (hsw : ∀ x ∈ l, x.v.s.length ≤ 9223372036854775807) :
    Calls Try.prog 3 #[.slice A l.length c, .int .i64 i] w (RetV w (.bool true)) := by
  have hL := h.1
  have hC := h.2.1
  have hS := h.2.2.1
  have Hsw := Lib.hid hsw
  clear hsw
  cases hlg : large l
  case true =>
    go_enter Try.func3, Try.ntmps3
    go_wp2_with (first
      | (go_at_call 15; refine (c_law10_Large l A c _ h Hsw.out).mono ?_; rintro e w1 ⟨rfl, hb1⟩)
      | (go_at_call 16; refine (c_law10_awake _).mono ?_; rintro e w2 ⟨rfl, hb2⟩))
    have hz1 := hb1.size
    go_ret
    exact RetV.bool rfl (by repeat (first | exact Below.refl _ _ | refine Below.drew ?_ | refine Below.alloc ?_ (by first | omega | (simp; done) | (simp; omega)) _ | refine Below.setCell ?_ (by first | omega | (simp; done) | (simp; omega)) _ | refine Below.trans ?_ (Below.mono (by assumption) (by first | omega | (simp; done) | (simp; omega)))))
  have hs : ∀ x ∈ l, x.v.s.length ≤ 9223372036854775807 := fun x hx => Nat.le_trans ((large_short hlg).2 x hx) (by omega)
  have Hs := Lib.hid hs
  clear hs
  go_enter Try.func3, Try.ntmps3
  go_wp2_with (go_at_call 15; refine (c_law10_Large l A c _ h Hsw.out).mono ?_; rintro e w1 ⟨rfl, hb1⟩)
  go_loopw [5] (fun i wr => ∃ k : Nat, k ≤ l.length ∧ i = .int .i64 k ∧ Below w.heap.size w wr) (fun i _ => l.length - (intOf i).toNat)
  case atStart => exact ⟨0, by omega, rfl, hb1⟩
  case round =>
    obtain ⟨k, hk, rfl, hbl⟩ := hrel
    have hbz := hbl.size
    by_cases hlt : k < l.length
    · obtain ⟨b, off, rfl, hb, hrow⟩ := h.at hlt
      obtain ⟨e0, e1, e2, e3, e4⟩ := (hrow.below hbl hb).node hlt rfl
      have hs1 := Hs.out l[k] (List.getElem_mem hlt)
      have hbr : b < wr.heap.size := by omega
      have hk0 : (0 : Int) ≤ (k : Int) := by omega
      have hk1 : (k : Int) < (l.length : Int) := by omega
      clear h hb1
      go_wp2_with (fail)
      refine wp_region_grow (by kernel_rfl) (by kernel_rfl) ?_
      repeat (quiet_step ((first | (go_at_call 17; exact quiet_grow (c_pred_Node l[k] _ hs1)) | (go_at_call 18; exact quiet_grow (c_ref10_Node l[k] _ hs1)) | (go_at_call 19; exact quiet_grow (c_pred_Parts _ _)) | (go_at_call 20; exact quiet_grow (c_ref10_Parts _ _)))))
      refine wpQuiet_nil ?_
      intro w2 hb2
      go_wp2_with (fail)
      go_roundw
      case rel => exact ⟨k + 1, by omega, by go_num, (by repeat (first | exact Below.refl _ _ | refine Below.drew ?_ | refine Below.alloc ?_ (by first | omega | (simp; done) | (simp; omega)) _ | refine Below.setCell ?_ (by first | omega | (simp; done) | (simp; omega)) _ | refine Below.trans ?_ (Below.mono (by assumption) (by first | omega | (simp; done) | (simp; omega)))))⟩
      case measure => simp [intOf]; omega
    · have H := Lib.hid h
      have HS := Hs
      clear h
      have hB := Lib.hid hb1
      clear hb1
      go_wp2_with (first
        | (go_at_call 21; refine (c_pred_End l A c i _ (H.out.below hbl)).mono ?_; rintro e w2 ⟨rfl, hb2⟩; have hc2 : Below w.heap.size w w2 := by { have := hbl.trans (hb2.mono hbz); exact this }; have hz2 := hc2.size; clear hb2)
        | (go_at_call 22; refine (c_ref10_End l A c i _ (H.out.below hc2)).mono ?_; rintro e w3 ⟨rfl, hb3⟩; have hc3 : Below w.heap.size w w3 := hc2.trans (hb3.mono hz2); have hz3 := hc3.size; clear hb3)
        | (go_at_call 23; refine (c_pred_Check l A c _ (H.out.below hc3) HS.out).mono ?_; rintro e w4 ⟨rfl, hb4⟩; have hc4 : Below w.heap.size w w4 := hc3.trans (hb4.mono hz3); have hz4 := hc4.size; clear hb4)
        | (go_at_call 24; refine (c_ref10_Check l A c _ (H.out.below hc4) HS.out).mono ?_; rintro e w5 ⟨rfl, hb5⟩; have hc5 : Below w.heap.size w w5 := hc4.trans (hb5.mono hz4); have hz5 := hc5.size; clear hb5)
        | (go_at_call 25; refine (c_pred_Depth l A c _ (H.out.below hc5)).mono ?_; rintro e w6 ⟨rfl, hb6⟩; have hc6 : Below w.heap.size w w6 := hc5.trans (hb6.mono hz5); have hz6 := hc6.size; clear hb6)
        | (go_at_call 26; refine (c_ref10_Depth l.length l A c _ (Nat.le_refl _) (H.out.below hc6)).mono ?_; rintro e w7 ⟨rfl, hb7⟩; have hc7 : Below w.heap.size w w7 := hc6.trans (hb7.mono hz6); have hz7 := hc7.size; clear hb7)
        | (go_at_call 16; refine (c_law10_awake _).mono ?_; rintro e w8 ⟨rfl, hb8⟩; have hc8 : Below w.heap.size w w8 := hc7.trans (hb8.mono hz7)))
      go_ret
      exact RetV.bool rfl hc8
set_option maxHeartbeats 400000 in
theorem c_law10_PredChecks_long (n : Nat) (A : Option Addr) (c : Nat) (i : Int) (w : World) (hn : 100 < n) (hL : n ≤ c) (hC : c ≤ 9223372036854775807) :
    Calls Try.prog 3 #[.slice A n c, .int .i64 i] w (RetV w (.bool true)) := by
  go_enter Try.func3, Try.ntmps3
  go_wp2_with (first
    | (go_at_call 15; refine (c_law10_Large_long n A c _ hn hL hC).mono ?_; rintro e w1 ⟨rfl, hb1⟩)
    | (go_at_call 16; refine (c_law10_awake _).mono ?_; rintro e w2 ⟨rfl, hb2⟩))
  have hz1 := hb1.size
  go_ret
  exact RetV.bool rfl (by repeat (first | exact Below.refl _ _ | refine Below.drew ?_ | refine Below.alloc ?_ (by first | omega | (simp; done) | (simp; omega)) _ | refine Below.setCell ?_ (by first | omega | (simp; done) | (simp; omega)) _ | refine Below.trans ?_ (Below.mono (by assumption) (by first | omega | (simp; done) | (simp; omega)))))
end Go.Proofs.Ytoekhnppcakdnaa
