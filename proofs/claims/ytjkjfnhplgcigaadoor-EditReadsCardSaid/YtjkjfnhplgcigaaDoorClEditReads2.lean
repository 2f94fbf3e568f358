/-
  W19l, ClEditReads, in one text (merge.py).
-/
import Derived.Test.YtjkjfnhplgcigaaDoorW19o
import Derived.Test.YtjkjfnhplgcigaaDoorW19r
import Derived.Test.YtjkjfnhplgcigaaDoorW01d
import Derived.Test.YtjkjfnhplgcigaaDoorW01f
import Derived.Test.YtjkjfnhplgcigaaDoorRel2
import Derived.Test.YtjkjfnhplgcigaaDoorCloseT
import Derived.Test.YtjkjfnhplgcigaaDoorCards
import Derived.Test.YtjkjfnhplgcigaaDoorTie
import Derived.Test.YtjkjfnhplgcigaaDoorOpenB
/-! W19l -/
namespace Go.Proofs.YtjkjfnhplgcigaaDoor
open Go.RowKit

theorem RdR.e {w : World} {h : Nat} {st : Rd} (r : RdR w h st) : w.cell? ⟨h, 1, none⟩ = some (.int .i64 st.e) := r.1.cell rfl
theorem RdR.s {w : World} {h : Nat} {st : Rd} (r : RdR w h st) : w.cell? ⟨h, 0, none⟩ = some (.string (str st.s)) := r.1.cell rfl
theorem rdEdit_err {st : Rd} (h : st.e ≠ 0) : rdEdit st = ez ∧ rdEdit' st = st := by
  have h0 : rdN st 7 = 0 := (rdN_err h).1
  obtain ⟨h1, h2, h3, h4⟩ := edA_zero h0
  have : rdEdit' st = st := by rw [(edP_no h3).1, (edC_no h2).1, (edB_no h1).1]; exact rdAb'_bad h
  exact ⟨rdEdit_bad h4, this⟩
theorem relgoals_gen {P : Program} {ops : Array Oper} {S : List Sp} {a : Act} {w : World} {r : List Oper} {s : Nat} (h : ∀ fr, fr = a → RelGoals P ops S fr w r s) : RelGoals P ops S a w r s := h a rfl
set_option maxHeartbeats 400000 in
theorem c_law19_EditReads_long (n : Nat) (A : Option Addr) (c : Nat) (w : World) (hT : Tab w) (hn : 1000 < n) :
    Calls Tryd.prog 6 #[.slice A n c] w (RetV w (.bool true)) := by
  go_enter Tryd.func6, Tryd.ntmps6
  go_wp2_with (go_at_call 13; refine (c_law19_awake _ hT).mono ?_; rintro e w2 ⟨rfl, hb2⟩)
  go_ret
  exact RetV.bool rfl (by repeat (first | exact Below.refl _ _ | refine Below.drew ?_ | refine Below.alloc ?_ (by first | omega | (simp; done) | (simp; omega)) _ | refine Below.setCell ?_ (by first | omega | (simp; done) | (simp; omega)) _ | refine Below.trans ?_ (Below.mono (by assumption) (by first | omega | (simp; done) | (simp; omega)))))
set_option maxHeartbeats 4000000 in
set_option maxRecDepth 4000 in
theorem c_law19_EditReads (b : List UInt8) (A : Option Addr) (c : Nat) (w : World) (h : InB w A c b) (hb : b.length ≤ 1000) (hT : Tab w) :
    Calls Tryd.prog 6 #[.slice A b.length c] w (RetV w (.bool true)) := by
  have hL := h.1
  have hC := h.2.1
  have hS := h.2.2.1
  have H := Lib.hid h
  have HT := Lib.hid hT
  clear h hT
  go_enter Tryd.func6, Tryd.ntmps6
  go_wp2_with (fail)
  refine (c_octet_New b A c _ H.out).mono ?_
  rintro e w1 ⟨g, rfl, hg, hr1, hb1⟩
  have hz1 := hb1.size
  have hgl := hr1.lt rfl
  have kb := conv_str (P := Tryd.prog) w1 Tryd.underlying30 Tryd.underlying5 Tryd.underlying9 (H.out.below hb1)
  go_wp2_with (fail)
  have hgh : g < w1.heap.size := hgl
  go_loopw [5] (fun i wr => ∃ (k : Nat) (st : Rd), k ≤ 4 ∧ i = .int .i64 k ∧ RdP wr (some g) st ∧ RdR wr w1.heap.size st ∧ Below w.heap.size w wr)
    (fun i _ => 4 - (intOf i).toNat)
  case atStart => exact ⟨0, ⟨b, 0⟩, by omega, rfl, hr1.below ((Below.refl _ _).alloc (Nat.le_refl _) _), ⟨Blk.new _ _ _, by simp only; omega⟩, (by repeat (first | exact Below.refl _ _ | refine Below.drew ?_ | refine Below.alloc ?_ (by first | omega | (simp; done) | (simp; omega)) _ | refine Below.setCell ?_ (by first | omega | (simp; done) | (simp; omega)) _ | refine Below.trans ?_ (Below.mono (by assumption) (by first | omega | (simp; done) | (simp; omega)))))⟩
  case round =>
    obtain ⟨k, st, hk3, rfl, hrp, hrr, hbl⟩ := hrel
    have hz := hbl.size
    have hne : some g ≠ some w1.heap.size := by simp; omega
    by_cases hlt : k < 4
    · have hd : decide ((k : Int) < 4) = true := by simp; omega
      have HZ : Hid (w.heap.size ≤ wr.drew.heap.size) := hz
      have HLT := Lib.hid hlt
      have HNE := Lib.hid hne
      have HB := Lib.hid hbl.drew
      have HRP := Lib.hid (hrp.below (Below.refl _ _).drew)
      have HRR := Lib.hid (hrr.below (Below.refl _ _).drew)
      have HGG := Lib.hid (show w.heap.size ≤ g ∧ g < w1.heap.size ∧ w.heap.size ≤ w1.heap.size from ⟨hg, hgh, hz1⟩)
      clear hlt hr1 kb H hb hb1 hgl hgh hL hC hS hz1 hz hne hbl hrp hrr hk3
      go_wp2_with (fail)
      refine wp_region_two (N := 50) (by kernel_rfl) (by kernel_rfl) rfl 20 rfl (by kernel_rfl) rfl ⟨rfl, rfl, rfl⟩ ⟨rfl, rfl, rfl⟩ ⟨rfl, rfl, rfl⟩ ⟨rfl, rfl, rfl⟩
        ⟨Tryd.func36, by kernel_rfl, by kernel_rfl⟩ ⟨Tryd.func37, by kernel_rfl, by kernel_rfl⟩ (by simp) ⟨by simp, by simp⟩ (by decide) (by decide) ?_
      refine (c_edit_Read (some g) st _ (HT.out.below HB.out) HRP.out).mono ?_
      rintro e w2 ⟨rfl, hrp2, hk2⟩
      have F2 := Lib.hid (show RdP w2 (some g) (rdEdit' st) ∧ RdR w2 w1.heap.size st ∧ Below w.heap.size w w2 from ⟨hrp2, HRR.out.kept hk2 HNE.out, HB.out.trans (hk2.below HZ.out (fun x e => by injection e with e; have := HGG.out; omega))⟩)
      clear hrp2 hk2
      refine ⟨_, rfl, ?_⟩
      refine (c_ref19_Read w1.heap.size st _ F2.out.2.1).mono ?_
      rintro e w3 ⟨rfl, hrr3, hk3⟩
      have F3 := Lib.hid (show RdP w3 (some g) (rdEdit' st) ∧ RdR w3 w1.heap.size (rdEdit' st) ∧ Below w.heap.size w w3 from ⟨F2.out.1.kept hk3 (fun x y e1 e2 => by injection e1 with e1; injection e2 with e2; have := HGG.out; omega), hrr3, F2.out.2.2.trans (hk3.below F2.out.2.2.size (fun x e => by injection e with e; have := HGG.out; omega))⟩)
      clear hrr3 hk3
      have hh3 : w1.heap.size < w3.heap.size := F3.out.2.1.lt
      refine ⟨_, rfl, [Sp.eq (.bool false), Sp.eq (.bool false), Sp.eq (ptr (some g)), Sp.eq (.int .i64 (rdEdit' st).e), Sp.eq (.pointer (some ⟨w1.heap.size, 0, none⟩)), Sp.eq (.pointer (some ⟨w1.heap.size, 0, none⟩)), Sp.eq (.pointer (some ⟨w1.heap.size, 1, none⟩)), Sp.eq (.int .i64 (rdEdit' st).e), Sp.eq (.bool false), Sp.eq (.bool false), Sp.eq (.bool false), Sp.eq (ptr (some g)), Sp.eq (.int .i64 (rdEdit' st).s.length), Sp.eq (.pointer (some ⟨w1.heap.size, 0, none⟩)), Sp.eq (.pointer (some ⟨w1.heap.size, 0, none⟩)), Sp.eq (.pointer (some ⟨w1.heap.size, 0, none⟩)), Sp.eq (.string (str (rdEdit' st).s)), Sp.eq (.int .i64 (rdEdit' st).s.length), Sp.eq (.bool false), Sp.eq (.bool false)], rfl, ?_, ?_⟩
      · show RelGoals _ _ (Sp.eq (ptr (some g)) :: Sp.eq (.agg (rdEdit st).arr) :: Sp.eq (.pointer (some ⟨w1.heap.size, 0, none⟩)) :: Sp.eq (.agg (rdEdit st).arr) :: _) _ _ _ _
        refine relgoals_gen fun fr hfr => ?_
        have HFR := Lib.hid hfr
        clear hfr
        refine ⟨?_, ?_, ?_, ?_, ?_, ?_, ?_, ?_, ?_, ?_, ?_, ?_, ?_, ?_, ?_, ?_, ?_, ?_, ?_, ?_, trivial⟩
        all_goals (intro u w4 hb4 hd; simp [Deps, Region.binds, Sp.eq_holds] at hd; simp only [putDeps, dstOf, Region.binds])
        case refine_1 =>
          rw [HFR.out]
          obtain ⟨d0, d1⟩ := hd
          rw [d0, d1]
          go_wp2_with (with_reducible refine stop_bin .neq 29 (.tmp 21) (.tmp 23) 29 rfl ?_)
          refine Stop.mk (wpList_neqS (by rfl) _ _ _ _ rfl (rdEdit st).arr (rdEdit st).arr rfl rfl gE true ((eq_edit (rdEdit_len st) (rdEdit_len st) 9995 _).trans (by simp)) ?_)
          exact RelEnd.mk rfl (Below.refl _ _) rfl
        case refine_2 =>
          (try (obtain ⟨d0, hd⟩ := hd; (try (obtain ⟨d1, hd⟩ := hd; (try (obtain ⟨d2, hd⟩ := hd))))))
          rw [HFR.out]
          go_wp2_with (fail)
          exact RelEnd.mk rfl (Below.refl _ _) rfl
        case refine_3 =>
          (try (obtain ⟨d0, hd⟩ := hd; (try (obtain ⟨d1, hd⟩ := hd; (try (obtain ⟨d2, hd⟩ := hd))))))
          rw [HFR.out]
          go_wp2_with (fail)
          exact RelEnd.mk rfl (Below.refl _ _) rfl
        case refine_4 =>
          (try (obtain ⟨d0, hd⟩ := hd; (try (obtain ⟨d1, hd⟩ := hd; (try (obtain ⟨d2, hd⟩ := hd))))))
          rw [HFR.out]
          go_wp2_with (go_at_call 34; refine (c_octet_Err' (some g) _ _ (F3.out.1.below hb4)).mono ?_; rintro e w5 ⟨rfl, hb5⟩)
          exact RelEnd.mk rfl hb5 rfl
        case refine_5 =>
          (try (obtain ⟨d0, hd⟩ := hd; (try (obtain ⟨d1, hd⟩ := hd; (try (obtain ⟨d2, hd⟩ := hd))))))
          rw [HFR.out]
          go_wp2_with (fail)
          exact RelEnd.mk rfl (Below.refl _ _) rfl
        case refine_6 =>
          (try (obtain ⟨d0, hd⟩ := hd; (try (obtain ⟨d1, hd⟩ := hd; (try (obtain ⟨d2, hd⟩ := hd))))))
          rw [HFR.out]
          go_wp2_with (fail)
          exact RelEnd.mk rfl (Below.refl _ _) rfl
        case refine_7 =>
          (try (obtain ⟨d0, hd⟩ := hd; (try (obtain ⟨d1, hd⟩ := hd; (try (obtain ⟨d2, hd⟩ := hd))))))
          rw [HFR.out]
          go_wp2_with (fail)
          exact RelEnd.mk rfl (Below.refl _ _) rfl
        case refine_8 =>
          (try (obtain ⟨d0, hd⟩ := hd; (try (obtain ⟨d1, hd⟩ := hd; (try (obtain ⟨d2, hd⟩ := hd))))))
          rw [HFR.out]
          have c1 := (F3.out.2.1.below hb4).e
          go_wp2_with (fail)
          exact RelEnd.mk rfl (Below.refl _ _) rfl
        case refine_9 =>
          (try (obtain ⟨d0, hd⟩ := hd; (try (obtain ⟨d1, hd⟩ := hd; (try (obtain ⟨d2, hd⟩ := hd))))))
          rw [HFR.out]
          go_wp2_with (fail)
          exact RelEnd.mk rfl (Below.refl _ _) rfl
        case refine_10 =>
          (try (obtain ⟨d0, hd⟩ := hd; (try (obtain ⟨d1, hd⟩ := hd; (try (obtain ⟨d2, hd⟩ := hd))))))
          rw [HFR.out]
          go_wp2_with (fail)
          exact RelEnd.mk rfl (Below.refl _ _) rfl
        case refine_11 =>
          (try (obtain ⟨d0, hd⟩ := hd; (try (obtain ⟨d1, hd⟩ := hd; (try (obtain ⟨d2, hd⟩ := hd))))))
          rw [HFR.out]
          go_wp2_with (fail)
          exact RelEnd.mk rfl (Below.refl _ _) rfl
        case refine_12 =>
          (try (obtain ⟨d0, hd⟩ := hd; (try (obtain ⟨d1, hd⟩ := hd; (try (obtain ⟨d2, hd⟩ := hd))))))
          rw [HFR.out]
          go_wp2_with (fail)
          exact RelEnd.mk rfl (Below.refl _ _) rfl
        case refine_13 =>
          (try (obtain ⟨d0, hd⟩ := hd; (try (obtain ⟨d1, hd⟩ := hd; (try (obtain ⟨d2, hd⟩ := hd))))))
          rw [HFR.out]
          go_wp2_with (go_at_call 35; refine (c_octet_Left' (some g) _ _ (F3.out.1.below hb4)).mono ?_; rintro e w5 ⟨rfl, hb5⟩)
          exact RelEnd.mk rfl hb5 rfl
        case refine_14 =>
          (try (obtain ⟨d0, hd⟩ := hd; (try (obtain ⟨d1, hd⟩ := hd; (try (obtain ⟨d2, hd⟩ := hd))))))
          rw [HFR.out]
          go_wp2_with (fail)
          exact RelEnd.mk rfl (Below.refl _ _) rfl
        case refine_15 =>
          (try (obtain ⟨d0, hd⟩ := hd; (try (obtain ⟨d1, hd⟩ := hd; (try (obtain ⟨d2, hd⟩ := hd))))))
          rw [HFR.out]
          go_wp2_with (fail)
          exact RelEnd.mk rfl (Below.refl _ _) rfl
        case refine_16 =>
          (try (obtain ⟨d0, hd⟩ := hd; (try (obtain ⟨d1, hd⟩ := hd; (try (obtain ⟨d2, hd⟩ := hd))))))
          rw [HFR.out]
          go_wp2_with (fail)
          exact RelEnd.mk rfl (Below.refl _ _) rfl
        case refine_17 =>
          (try (obtain ⟨d0, hd⟩ := hd; (try (obtain ⟨d1, hd⟩ := hd; (try (obtain ⟨d2, hd⟩ := hd))))))
          rw [HFR.out]
          have c0 := (F3.out.2.1.below hb4).s
          go_wp2_with (fail)
          exact RelEnd.mk rfl (Below.refl _ _) rfl
        case refine_18 =>
          (try (obtain ⟨d0, hd⟩ := hd; (try (obtain ⟨d1, hd⟩ := hd; (try (obtain ⟨d2, hd⟩ := hd))))))
          rw [HFR.out]
          go_wp2_with (fail)
          exact RelEnd.mk rfl (Below.refl _ _) rfl
        case refine_19 =>
          (try (obtain ⟨d0, hd⟩ := hd; (try (obtain ⟨d1, hd⟩ := hd; (try (obtain ⟨d2, hd⟩ := hd))))))
          rw [HFR.out]
          go_wp2_with (fail)
          exact RelEnd.mk rfl (Below.refl _ _) rfl
        case refine_20 =>
          (try (obtain ⟨d0, hd⟩ := hd; (try (obtain ⟨d1, hd⟩ := hd; (try (obtain ⟨d2, hd⟩ := hd))))))
          rw [HFR.out]
          go_wp2_with (fail)
          exact RelEnd.mk rfl (Below.refl _ _) rfl
      · intro u w5 hb5 hold
        simp only [RelHold, Sp.eq_holds, Nat.reduceAdd] at hold
        obtain ⟨-, -, -, -, -, -, -, -, -, -, -, -, -, -, -, -, -, -, -, -, -, -, -, dL, -⟩ := hold
        simp only [putAll, Act.put, Nat.reduceAdd, List.setIfInBounds_toArray, List.set_cons_zero, List.set_cons_succ, dL]
        have F6 := Lib.hid (show RdP w5 (some g) (rdEdit' st) ∧ RdR w5 w1.heap.size (rdEdit' st) ∧ Below w.heap.size w w5 from ⟨F3.out.1.below hb5, F3.out.2.1.below hb5, F3.out.2.2.trans (hb5.mono F3.out.2.2.size)⟩)
        clear hb5 F3
        have h4 : k < 4 := HLT.out
        go_wp2_with (fail)
        go_roundw
        case rel => exact ⟨k + 1, rdEdit' st, by omega, by go_num, F6.out.1, F6.out.2.1, F6.out.2.2⟩
        case measure => simp [intOf]; omega
    · have hd : decide ((k : Int) < 4) = false := by simp; omega
      have HB := Lib.hid hbl
      clear hr1 kb
      go_wp2_with (fail)
      refine (c_edit_Read none ⟨[], 1⟩ _ (HT.out.below HB.out) (RdP.nilmk _)).mono ?_
      rintro e w2 ⟨rfl, -, hk2⟩
      have hb2 : Below wr.heap.size wr w2 := hk2.below (Nat.le_refl _) (fun _ h => by cases h)
      have hw2 : Below w.heap.size w w2 := HB.out.trans (hb2.mono hz)
      have hz2 := hw2.size
      rw [(rdEdit_err (st := ⟨[], 1⟩) (by decide)).1]
      go_wp2_with (with_reducible refine stop_bin .eql 29 (.tmp 44) (.tmp 45) 29 rfl ?_)
      refine Stop.mk (wpList_eqlS (by rfl) _ _ _ _ rfl ez.arr ez.arr rfl (by rw [ez_cells]; rfl) gE true ((eq_edit (x := ez) (y := ez) rfl rfl 9995 _).trans (by simp)) ?_)
      go_wp2_with (fail)
      refine (c_law19_awake _ (HT.out.below hw2)).mono ?_
      rintro e w5 ⟨rfl, hb5⟩
      go_wp2_with (fail)
      go_ret
      exact RetV.bool rfl (hw2.trans (hb5.mono hz2))
end Go.Proofs.YtjkjfnhplgcigaaDoor
/-! ClEditReads -/
namespace Go.Proofs.YtjkjfnhplgcigaaDoor.clEditReads
open Go.ChangeShapes Go.WideShapes Go.ChangeAt Go.RowKit Go.Proofs.YtjkjfnhplgcigaaDoor
open Go.ChangeMaps (open_string shut_string)

set_option maxRecDepth 100000 in
theorem contract (H : Type) (enc : TypeId × Value → H) (W : World) (base : Nat) (args : Array Value) (ds gs : List (DataW H)) (before : List MemPlace)
    (hval : ∀ (j : Nat) t v, Tryd.f6.params[j]? = some t → args[j]? = some v → Value.okWide Tryd.prog W .any base t v)
    (hW : DataW.Whole enc Tryd.prog Tryd.f6.params.toList Rows.editReadsSpec.vars false W args.toList ds gs before)
    (hT : Tab W) :
    Calls Tryd.prog 6 args W fun e W' => ∃ v, e = .returned v ∧ Rows.editReadsSpec.post enc Tryd.prog Tryd.f6 false true false false W args v W' := by
  have hW' := hW
  obtain ⟨p, q, hA0, hV, rfl, hfz, hnd⟩ := hW
  have hA : DataW.TrodAll enc Tryd.prog W 0 (fun _ => true) true Tryd.f6.params.toList args.toList ds p := hA0
  clear hA0
  rw [Tryd.params6] at hA hval
  obtain ⟨v0, d0, rfl, rfl, h0⟩ := trodAll_one hA
  obtain ⟨rfl, rfl⟩ := trodVars_none hV
  have hpost := fun W' (hb : Below W.heap.size W W') => law_post (f := Tryd.f6) (s := Rows.editReadsSpec) laidOut Tryd.underlying4 (by kernel_rfl) rfl (by kernel_rfl) hW' rfl hb
  obtain ⟨b0, len0, cap0, rfl⟩ := okWide_slice Tryd.underlying30 (hval 0 30 v0 rfl rfl)
  obtain ⟨fuel0, hf0⟩ := h0
  obtain ⟨B, cb, b, hcs, hlb, hcb, hrb⟩ := open_bytes hf0
  simp only [Value.cells, List.cons.injEq, Value.slice.injEq, and_true] at hcs
  obtain ⟨rfl, rfl, rfl⟩ := hcs
  by_cases hbl : b.length ≤ 1000
  · exact (c_law19_EditReads b b0 cap0 W ⟨hlb, hcb, by omega, hrb⟩ hbl hT).mono fun e W' ⟨he, hb⟩ => ⟨_, he, hpost W' hb⟩
  · exact (c_law19_EditReads_long b.length b0 cap0 W hT (by omega)).mono fun e W' ⟨he, hb⟩ => ⟨_, he, hpost W' hb⟩
set_option maxRecDepth 100000 in
theorem lifted (os : Os) (started : os.Started) (H : Type) (enc : TypeId × Value → H) :
    ReturnsInHanded {} Tryd.checked os 6 .any (fun w args => (Rows.editReadsSpec.pre enc Tryd.prog Tryd.f6 [] false w args ∧ laidMetH Tryd.prog laidT w) ∧ sizedMet enc Tryd.prog Tryd.f6 (OpenSpec.ofChange Rows.editReadsSpec) false w args)
      (Rows.editReadsSpec.post enc Tryd.prog Tryd.f6 false true false false) := by
  refine returnsInHanded_of_change_and (C := Tryd.checked) (X := fun w _ => laidMetH Tryd.prog laidT w) (fun _ _ _ hh h => h.of_heap hh) ownKnob_none started (by kernel_rfl) Tryd.func6
    (ChangeSpec.witness_shaped (enc := enc) (C := Tryd.checked) (os := os) (X := fun w _ => laidMetH Tryd.prog laidT w) false (World.doorLaid Tryd.prog 400 os) #[.slice none 0 0] 8 rfl (World.shaped_of_RefB (by kernel_rfl) (by kernel_rfl)) (by kernel_rfl) (by kernel_rfl) (by kernel_rfl) (door_met os _)) ?_
  intro W base args ds gs before hval hW _ _ hL _
  exact contract H enc W base args ds gs before hval hW (tab_of_laid hL)
theorem row : Rows.EditReadsSaid :=
  OpenClaim.holds_of_wide 6 Tryd.f6 rfl rfl rfl rfl rfl rfl rfl ⟨rfl, rfl, rfl, rfl, rfl⟩ rfl rfl rfl rfl rfl (by kernel_rfl) Tryd.func6 (by kernel_rfl)
    (of_decide_eq_true (by kernel_rfl)) (by unfold Func.isWrapper; rw [if_neg (of_decide_eq_false (by kernel_rfl))]; exact ⟨rfl, rfl⟩)
    (fun os started H enc _ => lifted os started H enc)
theorem proved : Rows.EditReadsCardSaid :=
  Claim7.holds_tied_plain_at .later [] [.data] true _ false row (fun _ h => by cases h) (by kernel_rfl) (fun _ h => by cases h) editReads_row_tie rfl ⟨rfl, rfl⟩ (by kernel_rfl) rfl
    (fun f fn hf hfn => by
      obtain rfl : f = 6 := Option.some.inj ((show Tryd.prog.funcNamed "offprint/offprintlaw19.EditReads" = some 6 by kernel_rfl).symm.trans hf) |>.symm
      obtain rfl : fn = Tryd.f6 := (Option.some.inj (Tryd.func6.symm.trans hfn)).symm
      exact ⟨by kernel_rfl, fun j t ht => by
        have hall : (Tryd.f6.params.toList.all fun u => !Tryd.prog.wantsStandIn u) = true := by kernel_rfl
        have hm := List.all_eq_true.1 hall t (by have := Array.mem_of_getElem? ht; simpa using this)
        show Tryd.prog.wantsStandIn t = false
        simpa using hm⟩)
    (by kernel_rfl)
end Go.Proofs.YtjkjfnhplgcigaaDoor.clEditReads
