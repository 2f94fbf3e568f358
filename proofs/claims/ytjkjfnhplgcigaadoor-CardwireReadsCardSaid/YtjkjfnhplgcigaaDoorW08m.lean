/-
  The walk of the statement CardwireReads: it answers true, whatever the bytes and the kinds. (Printed by gen08m.py.)
-/
import Derived.Test.YtjkjfnhplgcigaaDoorW08f
import Derived.Test.YtjkjfnhplgcigaaDoorW08i
import Derived.Test.YtjkjfnhplgcigaaDoorW08j
import Derived.Test.YtjkjfnhplgcigaaDoorW08k
import Derived.Test.YtjkjfnhplgcigaaDoorW08l
import Derived.Test.YtjkjfnhplgcigaaDoorW01d
import Derived.Test.YtjkjfnhplgcigaaDoorW01f
import Derived.Test.YtjkjfnhplgcigaaDoorEqv
namespace Go.Proofs.YtjkjfnhplgcigaaDoor
open Go.RowKit

set_option maxHeartbeats 400000 in
theorem c_law08_CardwireReads_long (n : Nat) (A : Option Addr) (c : Nat) (v : Value) (w : World) (hn : 1000 < n) :
    Calls Tryd.prog 5 #[.slice A n c, v] w (RetV w (.bool true)) := by
  go_enter Tryd.func5, Tryd.ntmps5
  go_wp2_with (go_at_call 20; refine (c_law08_awake _).mono ?_; rintro e w2 ⟨rfl, hb2⟩)
  go_ret
  exact RetV.bool rfl (by repeat (first | exact Below.refl _ _ | refine Below.drew ?_ | refine Below.alloc ?_ (by first | omega | (simp; done) | (simp; omega)) _ | refine Below.setCell ?_ (by first | omega | (simp; done) | (simp; omega)) _ | refine Below.trans ?_ (Below.mono (by assumption) (by first | omega | (simp; done) | (simp; omega)))))
theorem RdR.e {w : World} {h : Nat} {st : Rd} (r : RdR w h st) : w.cell? ⟨h, 1, none⟩ = some (.int .i64 st.e) := r.1.cell rfl
theorem RdR.s {w : World} {h : Nat} {st : Rd} (r : RdR w h st) : w.cell? ⟨h, 0, none⟩ = some (.string (str st.s)) := r.1.cell rfl
theorem rdCard_err {st : Rd} (h : st.e ≠ 0) : rdCard st = cz ∧ rdCard' st = st := by
  have h1 : cdA st = st := rdAb'_bad h
  have h2 : cdB st = st := by unfold cdB; rw [h1]; exact rdAb'_bad h
  have h3 : cdC st = st := by unfold cdC; rw [h2]; exact (rdN_err h).2
  have h4 : cdD st = st := by unfold cdD; rw [h3]; exact (rdN_err h).2
  have h5 : rdCard' st = st := by rw [rdCard'_def, h4, rdFs'_bad h]
  exact ⟨rdCard_bad (by rw [h5]; exact h), h5⟩
theorem cz_cells : cz.arr = (#[.int .i64 0, .int .i64 0, .int .u32 0, .int .i64 0, .int .i64 0, .string (str []), .int .i64 0, .int .i64 0, .string (str []), .int .i64 0, .int .i64 0, .string (str []), .int .i64 0, .int .i64 0, .string (str []), .int .i64 0, .int .i64 0, .string (str []), .int .i64 0, .int .i64 0, .string (str []), .int .i64 0, .int .i64 0, .string (str []), .int .i64 0, .int .i64 0, .string (str [])] : Array Value) := by
  unfold Card.arr; rfl
set_option maxHeartbeats 8000000 in
set_option maxRecDepth 4000 in
theorem c_law08_CardwireReads (b : List UInt8) (A : Option Addr) (c : Nat) (ks : List Int) (K : Option Addr) (nk ck : Nat) (w : World) (h : InB w A c b) (hb : b.length ≤ 1000) (hkl : ks.length = min nk 20) (hnk : nk ≤ ck) (hck : ck ≤ 9223372036854775807)
    (hK : InI w K ck ks) (hT : Tab w) : Calls Tryd.prog 5 #[.slice A b.length c, .slice K nk ck] w (RetV w (.bool true)) := by
  have hL := h.1
  have hC := h.2.1
  have H := Lib.hid h
  have HK := Lib.hid hK
  have HT := Lib.hid hT
  clear h hK hT
  go_enter Tryd.func5, Tryd.ntmps5
  go_wp2_with (fail)
  refine (c_octet_New b A c _ H.out).mono ?_
  rintro e w1 ⟨g, rfl, hg, hr1, hb1⟩
  have hz1 := hb1.size
  have hgl := hr1.lt rfl
  have kb := conv_str (P := Tryd.prog) w1 Tryd.underlying30 Tryd.underlying5 Tryd.underlying9 (H.out.below hb1)
  go_wp2_with (fail)
  go_loopw [7] (fun i wr => ∃ (k : Nat) (st : Rd), k ≤ ks.length ∧ i = .int .i64 k ∧ RdP wr (some g) st ∧ RdR wr w1.heap.size st ∧ Below w.heap.size w wr)
    (fun i _ => ks.length - (intOf i).toNat)
  case atStart => exact ⟨0, ⟨b, 0⟩, by omega, rfl, hr1.below ((Below.refl _ _).alloc (Nat.le_refl _) _), ⟨Blk.new _ _ _, by simp only; omega⟩, (by repeat (first | exact Below.refl _ _ | refine Below.drew ?_ | refine Below.alloc ?_ (by first | omega | (simp; done) | (simp; omega)) _ | refine Below.setCell ?_ (by first | omega | (simp; done) | (simp; omega)) _ | refine Below.trans ?_ (Below.mono (by assumption) (by first | omega | (simp; done) | (simp; omega)))))⟩
  case round =>
    clear hr1 kb
    obtain ⟨k, st, hk3, rfl, hrp, hrr, hbl⟩ := hrel
    have hz := hbl.size
    have hne : some g ≠ some w1.heap.size := by simp; omega
    have HRP := Lib.hid hrp
    have HRR := Lib.hid hrr
    have HBL := Lib.hid hbl
    have hwl := hrr.lt
    clear hrp hrr hbl
    by_cases hlt : k < ks.length
    · have c1 : decide ((k : Int) < (nk : Int)) = true := by simp; omega
      have c2 : decide ((k : Int) < 20) = true := by simp; omega
      obtain ⟨bl, off, rfl, hbb, hrow⟩ := (HK.out.below HBL.out).at hlt
      have hc0 := hrow k hlt 0 _ rfl
      simp only [Nat.mul_one, Nat.add_zero] at hc0
      obtain ⟨kk, hkk⟩ : ∃ kk, kk = ks[k] := ⟨_, rfl⟩
      rw [← hkk] at hc0
      clear hrow hkk
      by_cases h0 : kk = 0
      case pos =>
        have k0 : (kk == 0) = true := by simpa using h0
        clear h0
        go_wp2_with (fail)
        refine (c_cardwire_Value (some g) st _ HRP.out).mono ?_
        rintro e w2 ⟨rfl, hrp2, hk2⟩
        have hz2 := hk2.size
        have hrr2 := HRR.out.kept hk2 hne
        have hw2 : Below w.heap.size w w2 := HBL.out.trans (hk2.below hz (fun x e => by injection e with e; omega))
        have HP2 := Lib.hid hrp2
        clear hrp2
        go_wp2_with (fail)
        refine (c_ref08_Value w1.heap.size st _ hrr2).mono ?_
        rintro e w3 ⟨rfl, hrr3, hk3⟩
        have hz3 := hk3.size
        have hrp3 := HP2.out.kept hk3 (fun x y e1 e2 => by injection e1 with e1; injection e2 with e2; omega)
        have hw3 : Below w.heap.size w w3 := hw2.trans (hk3.below hw2.size (fun x e => by injection e with e; omega))
        unfold Val.val
        go_wp2_with (with_reducible refine stop_bin .neq 24 (.tmp 40) (.tmp 42) 24 rfl ?_)
        refine Stop.mk (wpList_neqS (by rfl) _ _ _ _ rfl (rdVal st).c3 (rdVal st).c3 rfl rfl gV true ((eq_val 9998 (rdVal st) (rdVal st) _).trans (by simp)) ?_)
        have HP3 := Lib.hid hrp3
        have HR3 := Lib.hid hrr3
        have d0 := hrr3.s
        have d1 := hrr3.e
        have hl3 := hrr3.lt
        clear hrp3 hrr3 hrr2
        go_wp2_with (fail)
        refine wp_region_grow (by kernel_rfl) (by kernel_rfl) ?_
        repeat (quiet_step ((first | (go_at_call 34; exact quiet_grow (c_octet_Err' (some g) _ _ (HP3.out.below (grow_below _ _)))) | (go_at_call 35; exact quiet_grow (c_octet_Left' (some g) _ _ (HP3.out.below (grow_below _ _)))))))
        refine wpQuiet_nil ?_
        intro w4 hb4
        clear d0 d1
        go_wp2_with (fail)
        go_roundw
        case rel => exact ⟨k + 1, rdVal' st, by omega, by go_num, HP3.out.below hb4, HR3.out.below hb4, hw3.trans (hb4.mono hw3.size)⟩
        case measure => simp [intOf]; omega
      case neg =>
      have k0 : (kk == 0) = false := by simpa using h0
      clear h0
      by_cases h1 : kk = 1
      case pos =>
        have k1 : (kk == 1) = true := by simpa using h1
        clear h1
        go_wp2_with (fail)
        refine (c_cardwire_Card (some g) st _ (HT.out.below HBL.out) HRP.out).mono ?_
        rintro e w2 ⟨rfl, hrp2, hk2⟩
        have hz2 := hk2.size
        have hrr2 := HRR.out.kept hk2 hne
        have hw2 : Below w.heap.size w w2 := HBL.out.trans (hk2.below hz (fun x e => by injection e with e; omega))
        have HP2 := Lib.hid hrp2
        clear hrp2
        go_wp2_with (fail)
        refine (c_ref08_Card w1.heap.size st _ hrr2).mono ?_
        rintro e w3 ⟨rfl, hrr3, hk3⟩
        have hz3 := hk3.size
        have hrp3 := HP2.out.kept hk3 (fun x y e1 e2 => by injection e1 with e1; injection e2 with e2; omega)
        have hw3 : Below w.heap.size w w3 := hw2.trans (hk3.below hw2.size (fun x e => by injection e with e; omega))
        go_wp2_with (with_reducible refine stop_bin .neq 40 (.tmp 47) (.tmp 49) 40 rfl ?_)
        refine Stop.mk (wpList_neqS (by rfl) _ _ _ _ rfl (rdCard st).arr (rdCard st).arr rfl rfl gC true ((eq_card (rdCard_len st) (rdCard_len st) 9996 _).trans (by simp)) ?_)
        have HP3 := Lib.hid hrp3
        have HR3 := Lib.hid hrr3
        have d0 := hrr3.s
        have d1 := hrr3.e
        have hl3 := hrr3.lt
        clear hrp3 hrr3 hrr2
        go_wp2_with (fail)
        refine wp_region_grow (by kernel_rfl) (by kernel_rfl) ?_
        repeat (quiet_step ((first | (go_at_call 34; exact quiet_grow (c_octet_Err' (some g) _ _ (HP3.out.below (grow_below _ _)))) | (go_at_call 35; exact quiet_grow (c_octet_Left' (some g) _ _ (HP3.out.below (grow_below _ _)))))))
        refine wpQuiet_nil ?_
        intro w4 hb4
        clear d0 d1
        go_wp2_with (fail)
        go_roundw
        case rel => exact ⟨k + 1, rdCard' st, by omega, by go_num, HP3.out.below hb4, HR3.out.below hb4, hw3.trans (hb4.mono hw3.size)⟩
        case measure => simp [intOf]; omega
      case neg =>
        have k1 : (kk == 1) = false := by simpa using h1
        clear h1
        go_wp2_with (fail)
        refine (c_cardwire_Patch (some g) st _ (HT.out.below HBL.out) HRP.out).mono ?_
        rintro e w2 ⟨rfl, hrp2, hk2⟩
        have hz2 := hk2.size
        have hrr2 := HRR.out.kept hk2 hne
        have hw2 : Below w.heap.size w w2 := HBL.out.trans (hk2.below hz (fun x e => by injection e with e; omega))
        have HP2 := Lib.hid hrp2
        clear hrp2
        go_wp2_with (fail)
        refine (c_ref08_Patch w1.heap.size st _ hrr2).mono ?_
        rintro e w3 ⟨rfl, hrr3, hk3⟩
        have hz3 := hk3.size
        have hrp3 := HP2.out.kept hk3 (fun x y e1 e2 => by injection e1 with e1; injection e2 with e2; omega)
        have hw3 : Below w.heap.size w w3 := hw2.trans (hk3.below hw2.size (fun x e => by injection e with e; omega))
        go_wp2_with (with_reducible refine stop_bin .neq 27 (.tmp 33) (.tmp 35) 27 rfl ?_)
        refine Stop.mk (wpList_neqS (by rfl) _ _ _ _ rfl (rdPatch st).arr (rdPatch st).arr rfl rfl gP true ((eq_patch (rdPatch_len st) (rdPatch_len st) 9996 _).trans (by simp)) ?_)
        have HP3 := Lib.hid hrp3
        have HR3 := Lib.hid hrr3
        have d0 := hrr3.s
        have d1 := hrr3.e
        have hl3 := hrr3.lt
        clear hrp3 hrr3 hrr2
        go_wp2_with (fail)
        refine wp_region_grow (by kernel_rfl) (by kernel_rfl) ?_
        repeat (quiet_step ((first | (go_at_call 34; exact quiet_grow (c_octet_Err' (some g) _ _ (HP3.out.below (grow_below _ _)))) | (go_at_call 35; exact quiet_grow (c_octet_Left' (some g) _ _ (HP3.out.below (grow_below _ _)))))))
        refine wpQuiet_nil ?_
        intro w4 hb4
        clear d0 d1
        go_wp2_with (fail)
        go_roundw
        case rel => exact ⟨k + 1, rdPatch' st, by omega, by go_num, HP3.out.below hb4, HR3.out.below hb4, hw3.trans (hb4.mono hw3.size)⟩
        case measure => simp [intOf]; omega
    · by_cases hq : nk ≤ k
      · have c1 : decide ((k : Int) < (nk : Int)) = false := by simp; omega
        go_wp2_with (fail)
        refine (c_cardwire_Value none ⟨[], 1⟩ _ (RdP.nilmk _)).mono ?_
        rintro e w2 ⟨rfl, -, hk2⟩
        have hb2 : Below wr.heap.size wr w2 := hk2.below (Nat.le_refl _) (fun _ h => by cases h)
        have hw2 : Below w.heap.size w w2 := HBL.out.trans (hb2.mono hz)
        have hz2 := hw2.size
        rw [(rdVal_err (st := ⟨[], 1⟩) (by decide)).1]
        unfold Val.val
        go_wp2_with (with_reducible refine stop_bin .eql 24 (.tmp 68) (.tmp 69) 24 rfl ?_)
        refine Stop.mk (wpList_eqlS (by rfl) _ _ _ _ rfl vz.c3 vz.c3 rfl rfl gV true ((eq_val 9998 vz vz _).trans (by simp)) ?_)
        go_wp2_with (fail)
        refine (c_cardwire_Card none ⟨[], 1⟩ _ (HT.out.below hw2) (RdP.nilmk _)).mono ?_
        rintro e w3 ⟨rfl, -, hk3⟩
        have hb3 : Below w2.heap.size w2 w3 := hk3.below (Nat.le_refl _) (fun _ h => by cases h)
        have hw3 : Below w.heap.size w w3 := hw2.trans (hb3.mono hz2)
        have hz3 := hw3.size
        rw [(rdCard_err (st := ⟨[], 1⟩) (by decide)).1]
        go_wp2_with (with_reducible refine stop_bin .eql 40 (.tmp 72) (.tmp 73) 40 rfl ?_)
        refine Stop.mk (wpList_eqlS (by rfl) _ _ _ _ rfl cz.arr cz.arr rfl (by rw [cz_cells]; rfl) gC true ((eq_card (x := cz) (y := cz) rfl rfl 9996 _).trans (by simp)) ?_)
        go_wp2_with (fail)
        refine (c_cardwire_Patch none ⟨[], 1⟩ _ (HT.out.below hw3) (RdP.nilmk _)).mono ?_
        rintro e w4 ⟨rfl, -, hk4⟩
        have hb4 : Below w3.heap.size w3 w4 := hk4.below (Nat.le_refl _) (fun _ h => by cases h)
        have hw4 : Below w.heap.size w w4 := hw3.trans (hb4.mono hz3)
        have hz4 := hw4.size
        rw [(rdPatch_err (st := ⟨[], 1⟩) (by decide)).1]
        go_wp2_with (with_reducible refine stop_bin .eql 27 (.tmp 77) (.tmp 78) 27 rfl ?_)
        refine Stop.mk (wpList_eqlS (by rfl) _ _ _ _ rfl pz.arr pz.arr rfl (by rw [pz_cells]; rfl) gP true ((eq_patch (x := pz) (y := pz) rfl rfl 9996 _).trans (by simp)) ?_)
        go_wp2_with (fail)
        refine (c_law08_awake _).mono ?_
        rintro e w5 ⟨rfl, hb5⟩
        go_wp2_with (fail)
        go_ret
        exact RetV.bool rfl (hw4.trans (hb5.mono hz4))
      · have c1 : decide ((k : Int) < (nk : Int)) = true := by simp; omega
        have c2 : decide ((k : Int) < 20) = false := by simp; omega
        have hq2 : k < nk := by omega
        have hq3 : 20 ≤ k := by omega
        go_wp2_with (fail)
        refine (c_cardwire_Value none ⟨[], 1⟩ _ (RdP.nilmk _)).mono ?_
        rintro e w2 ⟨rfl, -, hk2⟩
        have hb2 : Below wr.heap.size wr w2 := hk2.below (Nat.le_refl _) (fun _ h => by cases h)
        have hw2 : Below w.heap.size w w2 := HBL.out.trans (hb2.mono hz)
        have hz2 := hw2.size
        rw [(rdVal_err (st := ⟨[], 1⟩) (by decide)).1]
        unfold Val.val
        go_wp2_with (with_reducible refine stop_bin .eql 24 (.tmp 68) (.tmp 69) 24 rfl ?_)
        refine Stop.mk (wpList_eqlS (by rfl) _ _ _ _ rfl vz.c3 vz.c3 rfl rfl gV true ((eq_val 9998 vz vz _).trans (by simp)) ?_)
        go_wp2_with (fail)
        refine (c_cardwire_Card none ⟨[], 1⟩ _ (HT.out.below hw2) (RdP.nilmk _)).mono ?_
        rintro e w3 ⟨rfl, -, hk3⟩
        have hb3 : Below w2.heap.size w2 w3 := hk3.below (Nat.le_refl _) (fun _ h => by cases h)
        have hw3 : Below w.heap.size w w3 := hw2.trans (hb3.mono hz2)
        have hz3 := hw3.size
        rw [(rdCard_err (st := ⟨[], 1⟩) (by decide)).1]
        go_wp2_with (with_reducible refine stop_bin .eql 40 (.tmp 72) (.tmp 73) 40 rfl ?_)
        refine Stop.mk (wpList_eqlS (by rfl) _ _ _ _ rfl cz.arr cz.arr rfl (by rw [cz_cells]; rfl) gC true ((eq_card (x := cz) (y := cz) rfl rfl 9996 _).trans (by simp)) ?_)
        go_wp2_with (fail)
        refine (c_cardwire_Patch none ⟨[], 1⟩ _ (HT.out.below hw3) (RdP.nilmk _)).mono ?_
        rintro e w4 ⟨rfl, -, hk4⟩
        have hb4 : Below w3.heap.size w3 w4 := hk4.below (Nat.le_refl _) (fun _ h => by cases h)
        have hw4 : Below w.heap.size w w4 := hw3.trans (hb4.mono hz3)
        have hz4 := hw4.size
        rw [(rdPatch_err (st := ⟨[], 1⟩) (by decide)).1]
        go_wp2_with (with_reducible refine stop_bin .eql 27 (.tmp 77) (.tmp 78) 27 rfl ?_)
        refine Stop.mk (wpList_eqlS (by rfl) _ _ _ _ rfl pz.arr pz.arr rfl (by rw [pz_cells]; rfl) gP true ((eq_patch (x := pz) (y := pz) rfl rfl 9996 _).trans (by simp)) ?_)
        go_wp2_with (fail)
        refine (c_law08_awake _).mono ?_
        rintro e w5 ⟨rfl, hb5⟩
        go_wp2_with (fail)
        go_ret
        exact RetV.bool rfl (hw4.trans (hb5.mono hz4))
end Go.Proofs.YtjkjfnhplgcigaaDoor
