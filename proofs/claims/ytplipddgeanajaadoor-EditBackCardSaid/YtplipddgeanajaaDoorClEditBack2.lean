/-
  W19o, W19l, W19m, ClEditBack, in one text (merge.py).
-/
import Derived.Test.YtplipddgeanajaaDoorW19e
import Derived.Test.YtplipddgeanajaaDoorW19r
import Derived.Test.YtplipddgeanajaaDoorW01d
import Derived.Test.YtplipddgeanajaaDoorW01f
import Derived.Test.YtplipddgeanajaaDoorRel2
import Derived.Test.YtplipddgeanajaaDoorCloseT
import Derived.Test.YtplipddgeanajaaDoorCards
import Derived.Test.YtplipddgeanajaaDoorTie
import Derived.Test.YtplipddgeanajaaDoorOpenC
import Derived.Test.YtplipddgeanajaaDoorOpenB
/-! W19o -/
namespace Go.Proofs.YtplipddgeanajaaDoor
open Go.RowKit

def awakeE : Edit := ⟨6, 5, 2, pz⟩
theorem awakeE_arr : awakeE.arr = #[.int .i64 6, .int .i64 5, .int .i64 2, .int .u32 0, .int .u32 0, .int .i64 0, .int .i64 0, .string (str []), .int .i64 0, .int .i64 0, .string (str []), .int .i64 0, .int .i64 0, .string (str []), .int .i64 0, .int .i64 0, .string (str []), .int .i64 0, .int .i64 0, .string (str []), .int .i64 0, .int .i64 0, .string (str []), .int .i64 0, .int .i64 0, .string (str []), .int .i64 0, .int .i64 0, .string (str [])] := by unfold Edit.arr; rfl
theorem awakeE_put : editB awakeE = [6, 2, 5] := by decide +kernel
set_option maxHeartbeats 1000000 in
set_option maxRecDepth 100000 in
theorem c_law19_awake (w : World) (hT : Tab w) : Calls Tryd.prog 13 #[] w (RetV w (.bool true)) := by
  have hp := c_edit_Put [] none 0 awakeE w (In.nil (by omega)) (by simp) hT rfl (by decide) (by decide)
  rw [awakeE_arr] at hp
  have HP := Lib.hid hp
  clear hp
  go_enter Tryd.func13, Tryd.ntmps13
  go_wp2_with (fail)
  refine HP.out.mono ?_
  rintro e w5 ⟨v5, rfl, own5, hb5⟩
  rw [List.nil_append, awakeE_put] at own5
  obtain ⟨A2, c2, rfl, in2⟩ := In.of_own bc_len own5 (by simp)
  have kc : (convert 30 9 (.slice A2 3 c2)).run Tryd.prog w5 = .ok (.string (str [6, 2, 5])) w5 := conv_str w5 Tryd.underlying30 Tryd.underlying5 Tryd.underlying9 in2
  clear own5 in2
  go_wp2_with (fail)
  go_ret
  exact RetV.bool rfl hb5
theorem editB_len (e : Edit) : (editB e).length ≤ 353 := by
  have h1 := (num_len e.kind).2
  have h2 := (num_len e.group).2
  have h3 := (num_len e.id).2
  have h4 := patchB_len e.p
  unfold editB
  cases hasG e.kind <;> cases hasI e.kind <;> cases hasP e.kind <;> split <;> simp <;> omega
theorem Edit.fpart {e : Edit} {w : World} {g : Nat} (h : Blk w g e.arr) (j : Nat) (u : Value) (hu : (farr e.p.f)[j]? = some u) : w.cell? ⟨g, 5 + j, none⟩ = some u := by
  have := Edit.part h (2 + j) u (by rw [Patch.arr_tail]; exact hu)
  rwa [← Nat.add_assoc] at this
end Go.Proofs.YtplipddgeanajaaDoor
/-! W19l -/
namespace Go.Proofs.YtplipddgeanajaaDoor
open Go.RowKit

theorem RdR.e {w : World} {h : Nat} {st : Rd} (r : RdR w h st) : w.cell? ⟨h, 1, none⟩ = some (.int .i64 st.e) := r.1.cell rfl
theorem RdR.s {w : World} {h : Nat} {st : Rd} (r : RdR w h st) : w.cell? ⟨h, 0, none⟩ = some (.string (str st.s)) := r.1.cell rfl
theorem rdEdit_err {st : Rd} (h : st.e ≠ 0) : rdEdit st = ez ∧ rdEdit' st = st := by
  have h0 : rdN st 7 = 0 := (rdN_err h).1
  obtain ⟨h1, h2, h3, h4⟩ := edA_zero h0
  have : rdEdit' st = st := by rw [(edP_no h3).1, (edC_no h2).1, (edB_no h1).1]; exact rdAb'_bad h
  exact ⟨rdEdit_bad h4, this⟩
theorem relgoals_gen {P : Program} {ops : Array Oper} {S : List Sp} {a : Act} {w : World} {r : List Oper} {s : Nat} (h : ∀ fr, fr = a → RelGoals P ops S fr w r s) : RelGoals P ops S a w r s := h a rfl
end Go.Proofs.YtplipddgeanajaaDoor
/-! W19m -/
namespace Go.Proofs.YtplipddgeanajaaDoor
open Go.RowKit

theorem In.take {α : Type} {k : Nat} {cs : α → List Value} {w : World} {A : Option Addr} {c : Nat} {l : List α} (h : In k cs w A c l) {n : Nat} (hn : n ≤ l.length) : In k cs w A c (l.take n) := by
  have hl : (l.take n).length = n := by rw [List.length_take]; omega
  have h1 := h.1
  have h3 := h.2.2.1
  refine ⟨by omega, h.2.1, by omega, ?_⟩
  rcases h.2.2.2 with h0 | ⟨b, off, hA, hb, hr⟩
  · subst h0; left; simp
  · exact .inr ⟨b, off, hA, hb, hr.take n⟩
theorem head_run (A : Option Addr) (c len n : Nat) (hn : n ≤ len) (hc : len ≤ c) (x : World) :
    (Instr.slice 30 (.slice A len c) none (some (.int .i64 n)) none).run Tryd.prog x = .ok (.slice A n c) x := by
  have hr := run_slice_h (P := Tryd.prog) (w := x) 30 A len c bytes_elem .i64 (n : Int) (by omega) (by omega)
  rw [hr, bytes_size]
  simp only [Result.andThen, sliced]
  rw [show ((n : Int)).toNat = n by omega, Nat.zero_mul, Nat.sub_zero, Nat.sub_zero]
  have : A.map (·.add 0) = A := by
    cases A with
    | none => rfl
    | some a => simp [Addr.add]
  rw [this]
  split <;> rfl
theorem rdEdit_sizes (st : Rd) : (rdEdit st).p.mask < 4294967296 ∧ ∀ x ∈ (rdEdit st).p.f, x.s.length ≤ 4294967000 := by
  unfold rdEdit; split
  · unfold edEdit edP
    show Patch.mask (if hasP (edK st) = true then rdPatch (edC st) else pz) < 4294967296 ∧ ∀ x ∈ Patch.f (if hasP (edK st) = true then rdPatch (edC st) else pz), x.s.length ≤ 4294967000
    split
    · exact ⟨by have := (rdPatch_mask (edC st)).1; omega, rdPatch_sizes _⟩
    · exact ⟨by decide, by decide⟩
  · exact ⟨by decide, by decide⟩
set_option maxHeartbeats 1000000 in
set_option maxRecDepth 4000 in
theorem law19_Back_long (e : Edit) (B : Option Addr) (nb cb : Nat) (w : World) (hT : Tab w) (hf : e.p.f.length = 8) (h : longF e.p.f = true ∨ 500 < nb) :
    Calls Tryd.prog 3 #[.agg e.arr, .slice B nb cb] w (RetV w (.bool true)) := by
  have HF := Lib.hid hf
  clear hf
  have B0 := Lib.hid (Blk.new w 29 e.arr)
  cases h1 : longF e.p.f
  case' false =>
    rw [h1] at h
    have h5 := h.resolve_left (by simp)
  all_goals
    clear h
    go_enter Tryd.func3, Tryd.ntmps3
    go_wp2_with (with_reducible refine stop_load 25 (.tmp 11) rfl rfl ?_)
    refine Stop.mk (wpList_loadAt rfl _ _ rfl w.heap.size 5 rfl (farr e.p.f) (Edit.fpart B0.out) strF (by rw [farr_size, HF.out]) ?_)
    go_wp2_with (fail)
    refine (c_Large e.p.f _ HF.out).mono ?_
    rintro e1 w1 ⟨rfl, hb1⟩
    have hb1' : Below w.heap.size w w1 := ((Below.refl _ _).alloc (Nat.le_refl _) _).trans (hb1.mono (by simp))
    go_wp2_with (fail)
    refine (c_law19_awake _ (hT.below hb1')).mono ?_
    rintro e2 w2 ⟨rfl, hb2⟩
    go_wp2_with (fail)
    go_ret
    exact RetV.bool rfl (hb1'.trans (hb2.mono hb1'.size))
set_option maxHeartbeats 8000000 in
set_option maxRecDepth 4000 in
theorem c_law19_EditBack (e : Edit) (more : List UInt8) (B : Option Addr) (cb : Nat) (w : World) (hf : e.p.f.length = 8) (hm : e.p.mask < 4294967296) (hlf : longF e.p.f = false) (hT : Tab w) (hb : InB w B cb more) (hml : more.length ≤ 500) :
    Calls Tryd.prog 3 #[.agg e.arr, .slice B more.length cb] w (RetV w (.bool true)) := by
  have hL := hb.1
  have hC := hb.2.1
  have HB := Lib.hid hb
  have HT := Lib.hid hT
  have hs : ∀ x ∈ e.p.f, x.s.length ≤ 4294967000 := fun x hx => by have := List.any_eq_false.1 hlf x hx; simp at this; omega
  have HF := Lib.hid hf
  have Hs := Lib.hid hs
  have HZ := Lib.hid (Edit.size hf)
  have E0 := Lib.hid (Blk.new w 29 e.arr)
  obtain ⟨st, hst⟩ : ∃ st, st = rdEdit' ⟨more, 0⟩ := ⟨_, rfl⟩
  obtain ⟨X, hX⟩ : ∃ X, X = rdEdit ⟨more, 0⟩ := ⟨_, rfl⟩
  have hlen : st.s.length ≤ more.length := by rw [hst]; exact rdEdit'_len _
  have htook : st.e = 0 → X.code = 0 ∧ more = editB X ++ st.s := fun h => by
    rw [hst] at h
    have := (rdEdit_took h).2
    rw [hX, hst]
    exact this
  have hXl : X.p.f.length = 8 := by rw [hX]; exact rdEdit_len _
  have HXL := Lib.hid hXl
  have HXS := Lib.hid (show X.p.mask < 4294967296 ∧ ∀ x ∈ X.p.f, x.s.length ≤ 4294967000 by rw [hX]; exact rdEdit_sizes _)
  have HXZ := Lib.hid (Edit.size hXl)
  have Hst := Lib.hid hst
  have HX := Lib.hid hX
  obtain ⟨n, hn⟩ : ∃ n, n = more.length - st.s.length := ⟨_, rfl⟩
  have hnm : n ≤ more.length := by omega
  have hw : IntKind.i64.wrap ((more.length : Int) - (st.s.length : Int)) = (n : Int) := by rw [IntWalk.i64_in _ (by omega)]; omega
  have Hn := Lib.hid hn
  clear hst hX hb hn hf hs hXl hT
  go_enter Tryd.func3, Tryd.ntmps3
  go_wp2_with (with_reducible refine stop_load 25 (.tmp 11) rfl rfl ?_)
  refine Stop.mk (wpList_loadAt rfl _ _ rfl w.heap.size 5 rfl (farr e.p.f) (Edit.fpart E0.out) strF (by rw [farr_size, HF.out]) ?_)
  go_wp2_with (fail)
  refine (c_Large e.p.f _ HF.out).mono ?_
  rintro e0 w0 ⟨rfl, hb0⟩
  have hw0 : Below w.heap.size w w0 := ((Below.refl _ _).alloc (Nat.le_refl _) _).trans (hb0.mono (by simp))
  have hz0 := hw0.size
  have E1 := Lib.hid (E0.out.below hb0 (by simp))
  have hzz0 := E1.out.lt
  clear hb0 E0
  go_wp2_with (fail)
  refine (c_octet_New more B cb _ (HB.out.below hw0)).mono ?_
  rintro e1 w1 ⟨g, rfl, hg, hr1, hb1⟩
  have hw1 : Below w.heap.size w w1 := hw0.trans (hb1.mono hz0)
  have hz1 := hb1.size
  have hgl := hr1.lt rfl
  have E2 := Lib.hid (E1.out.below hb1 E1.out.lt)
  clear hb1 E1
  go_wp2_with (fail)
  refine (c_edit_Read (some g) ⟨more, 0⟩ _ (HT.out.below hw1) hr1).mono ?_
  rintro e2 w2 ⟨rfl, hr2, hk2⟩
  rw [← HX.out]
  rw [← Hst.out] at hr2
  have hz2 := hk2.size
  have hw2 : Below w.heap.size w w2 := hw1.trans (hk2.below hw1.size (fun x hx => by injection hx with hx; omega))
  have E3 := Lib.hid (E2.out.kept hk2 E2.out.lt (by simp; omega))
  clear hk2 hr1 E2
  go_wp2_with (with_reducible refine stop_store 29 (.tmp 6) (.tmp 23) rfl rfl ?_)
  refine Stop.mk (wpList_storeB rfl _ _ _ rfl w2.heap.size _ rfl rfl _ (Blk.new _ _ _) strE HXZ.out (by rw [HXZ.out]; rfl) (Edit.arr_ones _) ?_)
  intro w25 hb25 hk25
  have hz25 := hk25.size
  simp only [World.size_alloc] at hz25
  have hb2' : Below w2.heap.size w2 w25 := ((Below.refl _ _).alloc (Nat.le_refl _) _).trans (hk25.oneB (by simp) (Nat.le_refl _))
  have hw25 : Below w.heap.size w w25 := hw2.trans (hb2'.mono hw2.size)
  have hr25 := hr2.below hb2'
  have E4 := Lib.hid (E3.out.below hb2' E3.out.lt)
  have X4 := Lib.hid hb25
  clear hb25 hk25 hb2' hr2 E3
  go_wp2_with (fail)
  refine (c_octet_Left' (some g) _ _ hr25).mono ?_
  rintro e3 w3 ⟨rfl, hb3⟩
  have hw3 : Below w.heap.size w w3 := hw25.trans (hb3.mono hw25.size)
  have hz3 := hw3.size
  have hr3 := hr25.below hb3
  have E5 := Lib.hid (E4.out.below hb3 E4.out.lt)
  have X5 := Lib.hid (X4.out.below hb3 X4.out.lt)
  clear hb3 hr25 E4 X4
  have hpx := editB_len X
  have hn0 : decide ((n : Int) < 0) = false := by simp
  have hn1 : decide (more.length < n) = false := by simp; omega
  go_wp2_with (fail)
  by_cases he : st.e = 0
  · have heb : (st.e == 0) = true := by simpa using he
    obtain ⟨hcx, hmx⟩ := htook he
    have hpn : more.take n = editB X := by
      rw [Hn.out]
      have : more.length - st.s.length = (editB X).length := by rw [hmx, List.length_append]; omega
      rw [this]; conv => lhs; rw [hmx]
      exact List.take_left
    have Hcx := Lib.hid hcx
    have Hpn := Lib.hid hpn
    clear hcx hmx hpn he htook
    refine wp_region_rel [Sp.eq (.int .i64 n), Sp.eq (.bool false), Sp.eq (.bool false), Sp.eq (.int .i64 n), Sp.eq (.slice B more.length cb), Sp.eq (.int .i64 more.length), Sp.eq (.bool false), Sp.eq (.bool false), Sp.eq (.bool false), Sp.eq (ptr (some g)), Sp.eq (.int .i64 st.e), Sp.eq (.bool true), Sp.eq (.bool true), Sp.eq (.agg X.arr), Sp.eq (.int .i64 0), Sp.eq (.bool false), Sp.eq (.bool false), Sp.eq (.agg X.arr), Sp.slice 1 bc (editB X), Sp.eq (.string (str (editB X))), Sp.eq (.slice B more.length cb), Sp.eq (.int .i64 n), Sp.eq (.slice B n cb), Sp.eq (.string (str (editB X))), Sp.eq (.bool false), Sp.eq (.bool false), Sp.eq (.bool false), Sp.eq (.bool false)] 86 (by kernel_rfl) (by kernel_rfl) rfl rfl ?_ ?_
    · refine ⟨?_, ?_, ?_, ?_, ?_, ?_, ?_, ?_, ?_, ?_, ?_, ?_, ?_, ?_, ?_, ?_, ?_, ?_, ?_, ?_, ?_, ?_, ?_, ?_, ?_, ?_, ?_, ?_, trivial⟩
      all_goals (intro u w4 hb4 hd; simp [Deps, Region.binds, Sp.slice_holds, Sp.eq_holds] at hd; simp only [putDeps, dstOf, Region.binds])
      case refine_1 =>
        (try (obtain ⟨d0, hd⟩ := hd; (try (obtain ⟨d1, hd⟩ := hd; (try (obtain ⟨d2, hd⟩ := hd))))))
        go_wp2_with (fail)
        exact RelEnd.mk rfl (Below.refl _ _) rfl
      case refine_2 =>
        (try (obtain ⟨d0, hd⟩ := hd; (try (obtain ⟨d1, hd⟩ := hd; (try (obtain ⟨d2, hd⟩ := hd))))))
        go_wp2_with (fail)
        exact RelEnd.mk rfl (Below.refl _ _) rfl
      case refine_3 =>
        (try (obtain ⟨d0, hd⟩ := hd; (try (obtain ⟨d1, hd⟩ := hd; (try (obtain ⟨d2, hd⟩ := hd))))))
        go_wp2_with (fail)
        exact RelEnd.mk rfl (Below.refl _ _) rfl
      case refine_4 =>
        (try (obtain ⟨d0, hd⟩ := hd; (try (obtain ⟨d1, hd⟩ := hd; (try (obtain ⟨d2, hd⟩ := hd))))))
        go_wp2_with (fail)
        exact RelEnd.mk rfl (Below.refl _ _) rfl
      case refine_5 =>
        (try (obtain ⟨d0, hd⟩ := hd; (try (obtain ⟨d1, hd⟩ := hd; (try (obtain ⟨d2, hd⟩ := hd))))))
        go_wp2_with (fail)
        exact RelEnd.mk rfl (Below.refl _ _) rfl
      case refine_6 =>
        (try (obtain ⟨d0, hd⟩ := hd; (try (obtain ⟨d1, hd⟩ := hd; (try (obtain ⟨d2, hd⟩ := hd))))))
        go_wp2_with (fail)
        exact RelEnd.mk rfl (Below.refl _ _) rfl
      case refine_7 =>
        (try (obtain ⟨d0, hd⟩ := hd; (try (obtain ⟨d1, hd⟩ := hd; (try (obtain ⟨d2, hd⟩ := hd))))))
        go_wp2_with (fail)
        exact RelEnd.mk rfl (Below.refl _ _) rfl
      case refine_8 =>
        (try (obtain ⟨d0, hd⟩ := hd; (try (obtain ⟨d1, hd⟩ := hd; (try (obtain ⟨d2, hd⟩ := hd))))))
        go_wp2_with (fail)
        exact RelEnd.mk rfl (Below.refl _ _) rfl
      case refine_9 =>
        (try (obtain ⟨d0, hd⟩ := hd; (try (obtain ⟨d1, hd⟩ := hd; (try (obtain ⟨d2, hd⟩ := hd))))))
        go_wp2_with (fail)
        exact RelEnd.mk rfl (Below.refl _ _) rfl
      case refine_10 =>
        (try (obtain ⟨d0, hd⟩ := hd; (try (obtain ⟨d1, hd⟩ := hd; (try (obtain ⟨d2, hd⟩ := hd))))))
        go_wp2_with (fail)
        exact RelEnd.mk rfl (Below.refl _ _) rfl
      case refine_11 =>
        go_wp2_with (go_at_call 17; refine (c_octet_Err' (some g) _ _ (hr3.below hb4)).mono ?_; rintro e5 w5 ⟨rfl, hb5⟩)
        exact RelEnd.mk rfl hb5 rfl
      case refine_12 =>
        (try (obtain ⟨d0, hd⟩ := hd; (try (obtain ⟨d1, hd⟩ := hd; (try (obtain ⟨d2, hd⟩ := hd))))))
        go_wp2_with (fail)
        exact RelEnd.mk rfl (Below.refl _ _) rfl
      case refine_13 =>
        (try (obtain ⟨d0, hd⟩ := hd; (try (obtain ⟨d1, hd⟩ := hd; (try (obtain ⟨d2, hd⟩ := hd))))))
        go_wp2_with (fail)
        exact RelEnd.mk rfl (Below.refl _ _) rfl
      case refine_14 =>
        go_wp2_with (with_reducible refine stop_loadG 29 (.tmp 6) rfl ?_)
        refine Stop.mk (wpList_loadAtG (by simp [Region.wanted, yielded]) _ _ rfl w2.heap.size 0 rfl X.arr (X5.out.below hb4 X5.out.lt).all strE HXZ.out ?_)
        go_wp2_with (fail)
        exact RelEnd.mk rfl (Below.refl _ _) rfl
      case refine_15 =>
        go_wp2_with (go_at_call 18; refine (c_ref19_Check X _ HXL.out HXS.out.2 HXS.out.1).mono ?_; rintro e5 w5 ⟨rfl, hb5⟩; rw [Hcx.out])
        exact RelEnd.mk rfl hb5 rfl
      case refine_16 =>
        (try (obtain ⟨d0, hd⟩ := hd; (try (obtain ⟨d1, hd⟩ := hd; (try (obtain ⟨d2, hd⟩ := hd))))))
        go_wp2_with (fail)
        exact RelEnd.mk rfl (Below.refl _ _) rfl
      case refine_17 =>
        (try (obtain ⟨d0, hd⟩ := hd; (try (obtain ⟨d1, hd⟩ := hd; (try (obtain ⟨d2, hd⟩ := hd))))))
        go_wp2_with (fail)
        exact RelEnd.mk rfl (Below.refl _ _) rfl
      case refine_18 =>
        go_wp2_with (with_reducible refine stop_loadG 29 (.tmp 6) rfl ?_)
        refine Stop.mk (wpList_loadAtG (by simp [Region.wanted, yielded]) _ _ rfl w2.heap.size 0 rfl X.arr (X5.out.below hb4 X5.out.lt).all strE HXZ.out ?_)
        go_wp2_with (fail)
        exact RelEnd.mk rfl (Below.refl _ _) rfl
      case refine_19 =>
        go_wp2_with (go_at_call 19; refine (c_edit_Put [] none 0 X _ (In.nil (by omega)) (by simp) (HT.out.below (hw3.trans (hb4.mono hz3))) HXL.out HXS.out.2 HXS.out.1).mono ?_; rintro e5 w5 ⟨v5, rfl, own5, hb5⟩; rw [List.nil_append] at own5)
        exact RelEnd.mk rfl hb5 (In.of_own bc_len own5 (by omega))
      case refine_20 =>
        obtain ⟨⟨A5, c5, d0, d1⟩, d9⟩ := hd
        have kc := conv_str (P := Tryd.prog) w4 Tryd.underlying30 Tryd.underlying5 Tryd.underlying9 d1
        have kc' : (convert 30 9 (u 18)).run Tryd.prog w4 = .ok (.string (str (editB X))) w4 := by rw [d0]; exact kc
        clear kc d0 d1
        go_wp2_with (fail)
        exact RelEnd.mk rfl (Below.refl _ _) rfl
      case refine_21 =>
        (try (obtain ⟨d0, hd⟩ := hd; (try (obtain ⟨d1, hd⟩ := hd; (try (obtain ⟨d2, hd⟩ := hd))))))
        go_wp2_with (fail)
        exact RelEnd.mk rfl (Below.refl _ _) rfl
      case refine_22 =>
        (try (obtain ⟨d0, hd⟩ := hd; (try (obtain ⟨d1, hd⟩ := hd; (try (obtain ⟨d2, hd⟩ := hd))))))
        go_wp2_with (fail)
        exact RelEnd.mk rfl (Below.refl _ _) rfl
      case refine_23 =>
        have kc := head_run B cb more.length n hnm hL w4
        go_wp2_with (fail)
        exact RelEnd.mk rfl (Below.refl _ _) rfl
      case refine_24 =>
        have kc := conv_str (P := Tryd.prog) w4 Tryd.underlying30 Tryd.underlying5 Tryd.underlying9 ((HB.out.below (hw3.trans (hb4.mono hz3))).take hnm)
        rw [show (more.take n).length = n by rw [List.length_take]; omega, Hpn.out] at kc
        go_wp2_with (fail)
        exact RelEnd.mk rfl (Below.refl _ _) rfl
      case refine_25 =>
        (try (obtain ⟨d0, hd⟩ := hd; (try (obtain ⟨d1, hd⟩ := hd; (try (obtain ⟨d2, hd⟩ := hd))))))
        go_wp2_with (fail)
        exact RelEnd.mk rfl (Below.refl _ _) rfl
      case refine_26 =>
        (try (obtain ⟨d0, hd⟩ := hd; (try (obtain ⟨d1, hd⟩ := hd; (try (obtain ⟨d2, hd⟩ := hd))))))
        go_wp2_with (fail)
        exact RelEnd.mk rfl (Below.refl _ _) rfl
      case refine_27 =>
        (try (obtain ⟨d0, hd⟩ := hd; (try (obtain ⟨d1, hd⟩ := hd; (try (obtain ⟨d2, hd⟩ := hd))))))
        go_wp2_with (fail)
        exact RelEnd.mk rfl (Below.refl _ _) rfl
      case refine_28 =>
        (try (obtain ⟨d0, hd⟩ := hd; (try (obtain ⟨d1, hd⟩ := hd; (try (obtain ⟨d2, hd⟩ := hd))))))
        go_wp2_with (fail)
        exact RelEnd.mk rfl (Below.refl _ _) rfl
    · intro u w7 hb7' hold
      simp only [RelHold, Sp.eq_holds, Nat.reduceAdd] at hold
      obtain ⟨-, -, -, -, -, -, -, -, -, -, -, -, -, -, -, -, -, -, -, -, -, -, -, -, -, -, -, d27, -⟩ := hold
      simp only [putAll, Act.put, Nat.reduceAdd, List.setIfInBounds_toArray, List.set_cons_zero, List.set_cons_succ, d27]
      have hw7 : Below w.heap.size w w7 := hw3.trans (hb7'.mono hz3)
      have E7 := Lib.hid (E5.out.below hb7' E5.out.lt)
      have hz7 := hw7.size
      clear hb7' hw3 X5 E5 hpx hn0 hn1 heb
      by_cases hc : e.code = 0
      case neg =>
        have hne : (e.code != 0) = true := by simpa using hc
        go_wp2_with (with_reducible refine stop_load 29 (.tmp 2) rfl rfl ?_)
        refine Stop.mk (wpList_loadB rfl _ _ rfl w.heap.size rfl e.arr E7.out strE HZ.out ?_)
        go_wp2_with (fail)
        refine (c_ref19_Check e _ HF.out Hs.out hm).mono ?_
        rintro e8 w8 ⟨rfl, hb8⟩
        have hw8 : Below w.heap.size w w8 := hw7.trans (hb8.mono hz7)
        go_wp2_with (fail)
        refine (c_law19_awake _ (HT.out.below hw8)).mono ?_
        rintro e9 w9 ⟨rfl, hb9⟩
        go_wp2_with (fail)
        go_ret
        exact RetV.bool rfl (hw8.trans (hb9.mono hw8.size))
      case pos =>
        have hne : (e.code != 0) = false := by simpa using hc
        obtain ⟨hp1, hp2⟩ := rdEdit_put hc HF.out more
        have hpl := editB_len e
        have HP1 := Lib.hid hp1
        have HP2 := Lib.hid hp2
        clear hp1 hp2 hc
        go_wp2_with (with_reducible refine stop_load 29 (.tmp 2) rfl rfl ?_)
        refine Stop.mk (wpList_loadB rfl _ _ rfl w.heap.size rfl e.arr E7.out strE HZ.out ?_)
        go_wp2_with (fail)
        refine (c_ref19_Check e _ HF.out Hs.out hm).mono ?_
        rintro e8 w8 ⟨rfl, hb8⟩
        have hw8 : Below w.heap.size w w8 := hw7.trans (hb8.mono hz7)
        have E8 := Lib.hid (E7.out.below hb8 E7.out.lt)
        have hz8 := hw8.size
        have hy8 := E8.out.lt
        clear hb8 E7
        go_wp2_with (with_reducible refine stop_load 29 (.tmp 2) rfl rfl ?_)
        refine Stop.mk (wpList_loadB rfl _ _ rfl w.heap.size rfl e.arr E8.out strE HZ.out ?_)
        go_wp2_with (fail)
        refine (c_edit_Put [] none 0 e _ (In.nil (by omega)) (by simp) (HT.out.below hw8) HF.out Hs.out hm).mono ?_
        rintro e9 w9 ⟨v9, rfl, own9, hb9⟩
        have hw9 : Below w.heap.size w w9 := hw8.trans (hb9.mono hz8)
        have E9 := Lib.hid (E8.out.below hb9 E8.out.lt)
        rw [List.nil_append] at own9
        have Own9 := Lib.hid own9
        obtain ⟨A9, c9, rfl, _, _⟩ := own_form own9
        clear own9 E8
        go_wp2_with ((at_builtin; refine Stop.out ?_))
        refine Stop.mk (wpList_app _ rfl (.tmp 62) (.tmp 63) elemB rfl w8.heap.size _ (editB e).length ((editB e).flatMap bc) rfl Own9.out B more.length cb (more.flatMap bc) rfl (Src.of_in bc_len (by omega) (HB.out.below hw9)) (bc_one more) (by omega) hb9.size ?_)
        intro v10 w10 own10 _ hb10 _
        have hw10 : Below w.heap.size w w10 := hw9.trans (hb10.mono hz8)
        rw [← List.flatMap_append, ← List.length_append] at own10
        obtain ⟨A10, c10, rfl, in10⟩ := In.of_own bc_len own10 (by simp only [List.length_append]; omega)
        have In10 := Lib.hid in10
        have E10 := Lib.hid (E9.out.below hb10 (by omega))
        clear own10 in10 hb9 hb10 E9
        obtain ⟨all, hall⟩ : ∃ all, all = editB e ++ more := ⟨_, rfl⟩
        have Hall := Lib.hid hall
        rw [← hall] at In10 ⊢
        clear hall
        have hz10 := hw10.size
        have hy10 := E10.out.lt
        go_wp2_with (fail)
        refine (c_octet_New all A10 c10 _ In10.out).mono ?_
        rintro e11 w11 ⟨g2, rfl, hg2, hr11, hb11⟩
        have hw11 : Below w.heap.size w w11 := hw10.trans (hb11.mono hz10)
        have E11 := Lib.hid (E10.out.below hb11 E10.out.lt)
        have hz11 := hb11.size
        have hgl2 := hr11.lt rfl
        clear hb11 E10
        go_wp2_with (fail)
        refine (c_edit_Read (some g2) ⟨all, 0⟩ _ (HT.out.below hw11) hr11).mono ?_
        rintro e12 w12 ⟨rfl, hr12, hk12⟩
        rw [Hall.out, HP1.out]
        rw [Hall.out, HP2.out] at hr12
        have hz12 := hk12.size
        have hw12 : Below w.heap.size w w12 := hw11.trans (hk12.below hw11.size (fun x hx => by injection hx with hx; omega))
        have E12 := Lib.hid (E11.out.kept hk12 E11.out.lt (by simp; omega))
        clear hk12 hr11 E11
        go_wp2_with (with_reducible refine stop_store 29 (.tmp 9) (.tmp 67) rfl rfl ?_)
        refine Stop.mk (wpList_storeB rfl _ _ _ rfl w12.heap.size _ rfl rfl _ (Blk.new _ _ _) strE HZ.out (by rw [HZ.out]; rfl) (Edit.arr_ones _) ?_)
        intro w13 hb13 hk13
        have hb12' : Below w12.heap.size w12 w13 := ((Below.refl _ _).alloc (Nat.le_refl _) _).trans (hk13.oneB (by simp) (Nat.le_refl _))
        have hw13 : Below w.heap.size w w13 := hw12.trans (hb12'.mono hw12.size)
        have hr13 := hr12.below hb12'
        have E13 := Lib.hid (E12.out.below hb12' E12.out.lt)
        have Y13 := Lib.hid hb13
        clear hb13 hk13 hb12' hr12 E12
        go_wp2_with (fail)
        refine (c_octet_Err' (some g2) _ _ hr13).mono ?_
        rintro e14 w14 ⟨rfl, hb14⟩
        have hw14 : Below w.heap.size w w14 := hw13.trans (hb14.mono hw13.size)
        have hr14 := hr13.below hb14
        have E14 := Lib.hid (E13.out.below hb14 E13.out.lt)
        have Y14 := Lib.hid (Y13.out.below hb14 Y13.out.lt)
        clear hb14 hr13 E13 Y13
        go_wp2_with (with_reducible refine stop_loadG 29 (.tmp 9) rfl ?_)
        refine Stop.mk (wpList_loadAtG (by rfl) _ _ rfl w12.heap.size 0 rfl e.arr Y14.out.all strE HZ.out ?_)
        go_wp2_with (with_reducible refine stop_loadG 29 (.tmp 2) rfl ?_)
        refine Stop.mk (wpList_loadAtG (by rfl) _ _ rfl w.heap.size 0 rfl e.arr E14.out.all strE HZ.out ?_)
        go_wp2_with (with_reducible refine stop_bin .eql 29 (.tmp 72) (.tmp 73) 29 rfl ?_)
        refine Stop.mk (wpList_eqlS (by rfl) _ _ _ _ rfl e.arr e.arr rfl rfl gE true ((eq_edit HF.out HF.out 9995 _).trans (by simp)) ?_)
        go_wp2_with (fail)
        refine (c_octet_Left' (some g2) _ _ hr14).mono ?_
        rintro e15 w15 ⟨rfl, hb15⟩
        have hw15 : Below w.heap.size w w15 := hw14.trans (hb15.mono hw14.size)
        go_wp2_with (fail)
        refine (c_law19_awake _ (HT.out.below hw15)).mono ?_
        rintro e16 w16 ⟨rfl, hb16⟩
        go_wp2_with (fail)
        go_ret
        exact RetV.bool rfl (hw15.trans (hb16.mono hw15.size))
  · have heb : (st.e == 0) = false := by simpa using he
    clear he htook
    refine wp_region_rel [Sp.eq (.int .i64 n), Sp.eq (.bool false), Sp.eq (.bool false), Sp.eq (.int .i64 n), Sp.eq (.slice B more.length cb), Sp.eq (.int .i64 more.length), Sp.eq (.bool false), Sp.eq (.bool false), Sp.eq (.bool false), Sp.eq (ptr (some g)), Sp.eq (.int .i64 st.e), Sp.eq (.bool false), Sp.eq (.bool false), Sp.eq (.tuple #[]), Sp.eq (.tuple #[]), Sp.eq (.tuple #[]), Sp.eq (.tuple #[]), Sp.eq (.tuple #[]), Sp.eq (.tuple #[]), Sp.eq (.tuple #[]), Sp.eq (.tuple #[]), Sp.eq (.tuple #[]), Sp.eq (.tuple #[]), Sp.eq (.tuple #[]), Sp.eq (.tuple #[]), Sp.eq (.tuple #[]), Sp.eq (.bool false), Sp.eq (.bool false)] 86 (by kernel_rfl) (by kernel_rfl) rfl rfl ?_ ?_
    · refine ⟨?_, ?_, ?_, ?_, ?_, ?_, ?_, ?_, ?_, ?_, ?_, ?_, ?_, ?_, ?_, ?_, ?_, ?_, ?_, ?_, ?_, ?_, ?_, ?_, ?_, ?_, ?_, ?_, trivial⟩
      all_goals (intro u w4 hb4 hd; simp [Deps, Region.binds, Sp.eq_holds] at hd; simp only [putDeps, dstOf, Region.binds])
      case refine_1 =>
        (try (obtain ⟨d0, hd⟩ := hd; (try (obtain ⟨d1, hd⟩ := hd; (try (obtain ⟨d2, hd⟩ := hd))))))
        go_wp2_with (fail)
        exact RelEnd.mk rfl (Below.refl _ _) rfl
      case refine_2 =>
        (try (obtain ⟨d0, hd⟩ := hd; (try (obtain ⟨d1, hd⟩ := hd; (try (obtain ⟨d2, hd⟩ := hd))))))
        go_wp2_with (fail)
        exact RelEnd.mk rfl (Below.refl _ _) rfl
      case refine_3 =>
        (try (obtain ⟨d0, hd⟩ := hd; (try (obtain ⟨d1, hd⟩ := hd; (try (obtain ⟨d2, hd⟩ := hd))))))
        go_wp2_with (fail)
        exact RelEnd.mk rfl (Below.refl _ _) rfl
      case refine_4 =>
        (try (obtain ⟨d0, hd⟩ := hd; (try (obtain ⟨d1, hd⟩ := hd; (try (obtain ⟨d2, hd⟩ := hd))))))
        go_wp2_with (fail)
        exact RelEnd.mk rfl (Below.refl _ _) rfl
      case refine_5 =>
        (try (obtain ⟨d0, hd⟩ := hd; (try (obtain ⟨d1, hd⟩ := hd; (try (obtain ⟨d2, hd⟩ := hd))))))
        go_wp2_with (fail)
        exact RelEnd.mk rfl (Below.refl _ _) rfl
      case refine_6 =>
        (try (obtain ⟨d0, hd⟩ := hd; (try (obtain ⟨d1, hd⟩ := hd; (try (obtain ⟨d2, hd⟩ := hd))))))
        go_wp2_with (fail)
        exact RelEnd.mk rfl (Below.refl _ _) rfl
      case refine_7 =>
        (try (obtain ⟨d0, hd⟩ := hd; (try (obtain ⟨d1, hd⟩ := hd; (try (obtain ⟨d2, hd⟩ := hd))))))
        go_wp2_with (fail)
        exact RelEnd.mk rfl (Below.refl _ _) rfl
      case refine_8 =>
        (try (obtain ⟨d0, hd⟩ := hd; (try (obtain ⟨d1, hd⟩ := hd; (try (obtain ⟨d2, hd⟩ := hd))))))
        go_wp2_with (fail)
        exact RelEnd.mk rfl (Below.refl _ _) rfl
      case refine_9 =>
        (try (obtain ⟨d0, hd⟩ := hd; (try (obtain ⟨d1, hd⟩ := hd; (try (obtain ⟨d2, hd⟩ := hd))))))
        go_wp2_with (fail)
        exact RelEnd.mk rfl (Below.refl _ _) rfl
      case refine_10 =>
        (try (obtain ⟨d0, hd⟩ := hd; (try (obtain ⟨d1, hd⟩ := hd; (try (obtain ⟨d2, hd⟩ := hd))))))
        go_wp2_with (fail)
        exact RelEnd.mk rfl (Below.refl _ _) rfl
      case refine_11 =>
        go_wp2_with (go_at_call 17; refine (c_octet_Err' (some g) _ _ (hr3.below hb4)).mono ?_; rintro e5 w5 ⟨rfl, hb5⟩)
        exact RelEnd.mk rfl hb5 rfl
      case refine_12 =>
        (try (obtain ⟨d0, hd⟩ := hd; (try (obtain ⟨d1, hd⟩ := hd; (try (obtain ⟨d2, hd⟩ := hd))))))
        go_wp2_with (fail)
        exact RelEnd.mk rfl (Below.refl _ _) rfl
      case refine_13 =>
        (try (obtain ⟨d0, hd⟩ := hd; (try (obtain ⟨d1, hd⟩ := hd; (try (obtain ⟨d2, hd⟩ := hd))))))
        go_wp2_with (fail)
        exact RelEnd.mk rfl (Below.refl _ _) rfl
      case refine_14 =>
        (try (obtain ⟨d0, hd⟩ := hd; (try (obtain ⟨d1, hd⟩ := hd; (try (obtain ⟨d2, hd⟩ := hd))))))
        go_wp2_with (fail)
        exact RelEnd.mk rfl (Below.refl _ _) rfl
      case refine_15 =>
        (try (obtain ⟨d0, hd⟩ := hd; (try (obtain ⟨d1, hd⟩ := hd; (try (obtain ⟨d2, hd⟩ := hd))))))
        go_wp2_with (fail)
        exact RelEnd.mk rfl (Below.refl _ _) rfl
      case refine_16 =>
        (try (obtain ⟨d0, hd⟩ := hd; (try (obtain ⟨d1, hd⟩ := hd; (try (obtain ⟨d2, hd⟩ := hd))))))
        go_wp2_with (fail)
        exact RelEnd.mk rfl (Below.refl _ _) rfl
      case refine_17 =>
        (try (obtain ⟨d0, hd⟩ := hd; (try (obtain ⟨d1, hd⟩ := hd; (try (obtain ⟨d2, hd⟩ := hd))))))
        go_wp2_with (fail)
        exact RelEnd.mk rfl (Below.refl _ _) rfl
      case refine_18 =>
        (try (obtain ⟨d0, hd⟩ := hd; (try (obtain ⟨d1, hd⟩ := hd; (try (obtain ⟨d2, hd⟩ := hd))))))
        go_wp2_with (fail)
        exact RelEnd.mk rfl (Below.refl _ _) rfl
      case refine_19 =>
        (try (obtain ⟨d0, hd⟩ := hd; (try (obtain ⟨d1, hd⟩ := hd; (try (obtain ⟨d2, hd⟩ := hd))))))
        go_wp2_with (fail)
        exact RelEnd.mk rfl (Below.refl _ _) rfl
      case refine_20 =>
        (try (obtain ⟨d0, hd⟩ := hd; (try (obtain ⟨d1, hd⟩ := hd; (try (obtain ⟨d2, hd⟩ := hd))))))
        go_wp2_with (fail)
        exact RelEnd.mk rfl (Below.refl _ _) rfl
      case refine_21 =>
        (try (obtain ⟨d0, hd⟩ := hd; (try (obtain ⟨d1, hd⟩ := hd; (try (obtain ⟨d2, hd⟩ := hd))))))
        go_wp2_with (fail)
        exact RelEnd.mk rfl (Below.refl _ _) rfl
      case refine_22 =>
        (try (obtain ⟨d0, hd⟩ := hd; (try (obtain ⟨d1, hd⟩ := hd; (try (obtain ⟨d2, hd⟩ := hd))))))
        go_wp2_with (fail)
        exact RelEnd.mk rfl (Below.refl _ _) rfl
      case refine_23 =>
        (try (obtain ⟨d0, hd⟩ := hd; (try (obtain ⟨d1, hd⟩ := hd; (try (obtain ⟨d2, hd⟩ := hd))))))
        go_wp2_with (fail)
        exact RelEnd.mk rfl (Below.refl _ _) rfl
      case refine_24 =>
        (try (obtain ⟨d0, hd⟩ := hd; (try (obtain ⟨d1, hd⟩ := hd; (try (obtain ⟨d2, hd⟩ := hd))))))
        go_wp2_with (fail)
        exact RelEnd.mk rfl (Below.refl _ _) rfl
      case refine_25 =>
        (try (obtain ⟨d0, hd⟩ := hd; (try (obtain ⟨d1, hd⟩ := hd; (try (obtain ⟨d2, hd⟩ := hd))))))
        go_wp2_with (fail)
        exact RelEnd.mk rfl (Below.refl _ _) rfl
      case refine_26 =>
        (try (obtain ⟨d0, hd⟩ := hd; (try (obtain ⟨d1, hd⟩ := hd; (try (obtain ⟨d2, hd⟩ := hd))))))
        go_wp2_with (fail)
        exact RelEnd.mk rfl (Below.refl _ _) rfl
      case refine_27 =>
        (try (obtain ⟨d0, hd⟩ := hd; (try (obtain ⟨d1, hd⟩ := hd; (try (obtain ⟨d2, hd⟩ := hd))))))
        go_wp2_with (fail)
        exact RelEnd.mk rfl (Below.refl _ _) rfl
      case refine_28 =>
        (try (obtain ⟨d0, hd⟩ := hd; (try (obtain ⟨d1, hd⟩ := hd; (try (obtain ⟨d2, hd⟩ := hd))))))
        go_wp2_with (fail)
        exact RelEnd.mk rfl (Below.refl _ _) rfl
    · intro u w7 hb7' hold
      simp only [RelHold, Sp.eq_holds, Nat.reduceAdd] at hold
      obtain ⟨-, -, -, -, -, -, -, -, -, -, -, -, -, -, -, -, -, -, -, -, -, -, -, -, -, -, -, d27, -⟩ := hold
      simp only [putAll, Act.put, Nat.reduceAdd, List.setIfInBounds_toArray, List.set_cons_zero, List.set_cons_succ, d27]
      have hw7 : Below w.heap.size w w7 := hw3.trans (hb7'.mono hz3)
      have E7 := Lib.hid (E5.out.below hb7' E5.out.lt)
      have hz7 := hw7.size
      clear hb7' hw3 X5 E5 hpx hn0 hn1 heb
      by_cases hc : e.code = 0
      case neg =>
        have hne : (e.code != 0) = true := by simpa using hc
        go_wp2_with (with_reducible refine stop_load 29 (.tmp 2) rfl rfl ?_)
        refine Stop.mk (wpList_loadB rfl _ _ rfl w.heap.size rfl e.arr E7.out strE HZ.out ?_)
        go_wp2_with (fail)
        refine (c_ref19_Check e _ HF.out Hs.out hm).mono ?_
        rintro e8 w8 ⟨rfl, hb8⟩
        have hw8 : Below w.heap.size w w8 := hw7.trans (hb8.mono hz7)
        go_wp2_with (fail)
        refine (c_law19_awake _ (HT.out.below hw8)).mono ?_
        rintro e9 w9 ⟨rfl, hb9⟩
        go_wp2_with (fail)
        go_ret
        exact RetV.bool rfl (hw8.trans (hb9.mono hw8.size))
      case pos =>
        have hne : (e.code != 0) = false := by simpa using hc
        obtain ⟨hp1, hp2⟩ := rdEdit_put hc HF.out more
        have hpl := editB_len e
        have HP1 := Lib.hid hp1
        have HP2 := Lib.hid hp2
        clear hp1 hp2 hc
        go_wp2_with (with_reducible refine stop_load 29 (.tmp 2) rfl rfl ?_)
        refine Stop.mk (wpList_loadB rfl _ _ rfl w.heap.size rfl e.arr E7.out strE HZ.out ?_)
        go_wp2_with (fail)
        refine (c_ref19_Check e _ HF.out Hs.out hm).mono ?_
        rintro e8 w8 ⟨rfl, hb8⟩
        have hw8 : Below w.heap.size w w8 := hw7.trans (hb8.mono hz7)
        have E8 := Lib.hid (E7.out.below hb8 E7.out.lt)
        have hz8 := hw8.size
        have hy8 := E8.out.lt
        clear hb8 E7
        go_wp2_with (with_reducible refine stop_load 29 (.tmp 2) rfl rfl ?_)
        refine Stop.mk (wpList_loadB rfl _ _ rfl w.heap.size rfl e.arr E8.out strE HZ.out ?_)
        go_wp2_with (fail)
        refine (c_edit_Put [] none 0 e _ (In.nil (by omega)) (by simp) (HT.out.below hw8) HF.out Hs.out hm).mono ?_
        rintro e9 w9 ⟨v9, rfl, own9, hb9⟩
        have hw9 : Below w.heap.size w w9 := hw8.trans (hb9.mono hz8)
        have E9 := Lib.hid (E8.out.below hb9 E8.out.lt)
        rw [List.nil_append] at own9
        have Own9 := Lib.hid own9
        obtain ⟨A9, c9, rfl, _, _⟩ := own_form own9
        clear own9 E8
        go_wp2_with ((at_builtin; refine Stop.out ?_))
        refine Stop.mk (wpList_app _ rfl (.tmp 62) (.tmp 63) elemB rfl w8.heap.size _ (editB e).length ((editB e).flatMap bc) rfl Own9.out B more.length cb (more.flatMap bc) rfl (Src.of_in bc_len (by omega) (HB.out.below hw9)) (bc_one more) (by omega) hb9.size ?_)
        intro v10 w10 own10 _ hb10 _
        have hw10 : Below w.heap.size w w10 := hw9.trans (hb10.mono hz8)
        rw [← List.flatMap_append, ← List.length_append] at own10
        obtain ⟨A10, c10, rfl, in10⟩ := In.of_own bc_len own10 (by simp only [List.length_append]; omega)
        have In10 := Lib.hid in10
        have E10 := Lib.hid (E9.out.below hb10 (by omega))
        clear own10 in10 hb9 hb10 E9
        obtain ⟨all, hall⟩ : ∃ all, all = editB e ++ more := ⟨_, rfl⟩
        have Hall := Lib.hid hall
        rw [← hall] at In10 ⊢
        clear hall
        have hz10 := hw10.size
        have hy10 := E10.out.lt
        go_wp2_with (fail)
        refine (c_octet_New all A10 c10 _ In10.out).mono ?_
        rintro e11 w11 ⟨g2, rfl, hg2, hr11, hb11⟩
        have hw11 : Below w.heap.size w w11 := hw10.trans (hb11.mono hz10)
        have E11 := Lib.hid (E10.out.below hb11 E10.out.lt)
        have hz11 := hb11.size
        have hgl2 := hr11.lt rfl
        clear hb11 E10
        go_wp2_with (fail)
        refine (c_edit_Read (some g2) ⟨all, 0⟩ _ (HT.out.below hw11) hr11).mono ?_
        rintro e12 w12 ⟨rfl, hr12, hk12⟩
        rw [Hall.out, HP1.out]
        rw [Hall.out, HP2.out] at hr12
        have hz12 := hk12.size
        have hw12 : Below w.heap.size w w12 := hw11.trans (hk12.below hw11.size (fun x hx => by injection hx with hx; omega))
        have E12 := Lib.hid (E11.out.kept hk12 E11.out.lt (by simp; omega))
        clear hk12 hr11 E11
        go_wp2_with (with_reducible refine stop_store 29 (.tmp 9) (.tmp 67) rfl rfl ?_)
        refine Stop.mk (wpList_storeB rfl _ _ _ rfl w12.heap.size _ rfl rfl _ (Blk.new _ _ _) strE HZ.out (by rw [HZ.out]; rfl) (Edit.arr_ones _) ?_)
        intro w13 hb13 hk13
        have hb12' : Below w12.heap.size w12 w13 := ((Below.refl _ _).alloc (Nat.le_refl _) _).trans (hk13.oneB (by simp) (Nat.le_refl _))
        have hw13 : Below w.heap.size w w13 := hw12.trans (hb12'.mono hw12.size)
        have hr13 := hr12.below hb12'
        have E13 := Lib.hid (E12.out.below hb12' E12.out.lt)
        have Y13 := Lib.hid hb13
        clear hb13 hk13 hb12' hr12 E12
        go_wp2_with (fail)
        refine (c_octet_Err' (some g2) _ _ hr13).mono ?_
        rintro e14 w14 ⟨rfl, hb14⟩
        have hw14 : Below w.heap.size w w14 := hw13.trans (hb14.mono hw13.size)
        have hr14 := hr13.below hb14
        have E14 := Lib.hid (E13.out.below hb14 E13.out.lt)
        have Y14 := Lib.hid (Y13.out.below hb14 Y13.out.lt)
        clear hb14 hr13 E13 Y13
        go_wp2_with (with_reducible refine stop_loadG 29 (.tmp 9) rfl ?_)
        refine Stop.mk (wpList_loadAtG (by rfl) _ _ rfl w12.heap.size 0 rfl e.arr Y14.out.all strE HZ.out ?_)
        go_wp2_with (with_reducible refine stop_loadG 29 (.tmp 2) rfl ?_)
        refine Stop.mk (wpList_loadAtG (by rfl) _ _ rfl w.heap.size 0 rfl e.arr E14.out.all strE HZ.out ?_)
        go_wp2_with (with_reducible refine stop_bin .eql 29 (.tmp 72) (.tmp 73) 29 rfl ?_)
        refine Stop.mk (wpList_eqlS (by rfl) _ _ _ _ rfl e.arr e.arr rfl rfl gE true ((eq_edit HF.out HF.out 9995 _).trans (by simp)) ?_)
        go_wp2_with (fail)
        refine (c_octet_Left' (some g2) _ _ hr14).mono ?_
        rintro e15 w15 ⟨rfl, hb15⟩
        have hw15 : Below w.heap.size w w15 := hw14.trans (hb15.mono hw14.size)
        go_wp2_with (fail)
        refine (c_law19_awake _ (HT.out.below hw15)).mono ?_
        rintro e16 w16 ⟨rfl, hb16⟩
        go_wp2_with (fail)
        go_ret
        exact RetV.bool rfl (hw15.trans (hb16.mono hw15.size))
end Go.Proofs.YtplipddgeanajaaDoor
/-! ClEditBack -/
namespace Go.Proofs.YtplipddgeanajaaDoor.clEditBack
open Go.ChangeShapes Go.WideShapes Go.ChangeAt Go.RowKit Go.Proofs.YtplipddgeanajaaDoor
open Go.ChangeMaps (open_string shut_string)

set_option maxRecDepth 100000 in
theorem contract (H : Type) (enc : TypeId × Value → H) (W : World) (base : Nat) (args : Array Value) (ds gs : List (DataW H)) (before : List MemPlace)
    (hval : ∀ (j : Nat) t v, Tryd.f3.params[j]? = some t → args[j]? = some v → Value.okWide Tryd.prog W .any base t v)
    (hW : DataW.Whole enc Tryd.prog Tryd.f3.params.toList Rows.editBackSpec.vars false W args.toList ds gs before)
    (hT : Tab W) :
    Calls Tryd.prog 3 args W fun e W' => ∃ v, e = .returned v ∧ Rows.editBackSpec.post enc Tryd.prog Tryd.f3 false true false false W args v W' := by
  have hW' := hW
  obtain ⟨p, q, hA0, hV, rfl, hfz, hnd⟩ := hW
  have hA : DataW.TrodAll enc Tryd.prog W 0 (fun _ => true) true Tryd.f3.params.toList args.toList ds p := hA0
  clear hA0
  rw [Tryd.params3] at hA hval
  obtain ⟨v0, v1, d0, d1, p0, p1, rfl, rfl, rfl, h0, h1⟩ := trodAll_two hA
  obtain ⟨rfl, rfl⟩ := trodVars_none hV
  have hpost := fun W' (hb : Below W.heap.size W W') => law_post (f := Tryd.f3) (s := Rows.editBackSpec) laidOut Tryd.underlying4 (by kernel_rfl) rfl (by kernel_rfl) hW' rfl hb
  obtain ⟨c0, rfl, _⟩ := okWide_struct u_edit (hval 0 29 v0 rfl rfl)
  obtain ⟨b0, len', cap', rfl⟩ := okWide_slice Tryd.underlying30 (hval 1 30 v1 rfl rfl)
  obtain ⟨fuel0, hf0⟩ := h0
  obtain ⟨fuel1, hf1⟩ := h1
  obtain ⟨c, hc, hc8, hcm, -⟩ := open_edit hf0
  obtain ⟨B, cb, b, hcs, hlb, hcb, hrb⟩ := open_bytes hf1
  obtain rfl : c0 = c.arr := Array.toList_inj.1 hc
  simp only [Value.cells, List.cons.injEq, Value.slice.injEq, and_true] at hcs
  obtain ⟨rfl, rfl, rfl⟩ := hcs
  by_cases h : longF c.p.f = true ∨ 500 < b.length
  · exact (law19_Back_long c b0 b.length cap' W hT hc8 h).mono fun e W' ⟨he, hb⟩ => ⟨_, he, hpost W' hb⟩
  · have h1 : longF c.p.f = false := by cases h' : longF c.p.f <;> simp_all
    have h2 : b.length ≤ 500 := Nat.le_of_not_lt fun h' => h (.inr h')
    exact (c_law19_EditBack c b b0 cap' W hc8 hcm h1 hT ⟨hlb, hcb, by omega, hrb⟩ h2).mono fun e W' ⟨he, hb⟩ => ⟨_, he, hpost W' hb⟩
set_option maxRecDepth 100000 in
theorem lifted (os : Os) (started : os.Started) (H : Type) (enc : TypeId × Value → H) :
    ReturnsInHanded {} Tryd.checked os 3 .any (fun w args => (Rows.editBackSpec.pre enc Tryd.prog Tryd.f3 [] false w args ∧ laidMetH Tryd.prog laidT w) ∧ sizedMet enc Tryd.prog Tryd.f3 (OpenSpec.ofChange Rows.editBackSpec) false w args)
      (Rows.editBackSpec.post enc Tryd.prog Tryd.f3 false true false false) := by
  refine returnsInHanded_of_change_and (C := Tryd.checked) (X := fun w _ => laidMetH Tryd.prog laidT w) (fun _ _ _ hh h => h.of_heap hh) ownKnob_none started (by kernel_rfl) Tryd.func3
    (ChangeSpec.witness_shaped (enc := enc) (C := Tryd.checked) (os := os) (X := fun w _ => laidMetH Tryd.prog laidT w) false (World.doorLaid Tryd.prog 400 os) #[.agg (Edit.arr ⟨0, 0, 0, 0, 0, List.replicate 8 ⟨0, 0, []⟩⟩), .slice none 0 0] 8 rfl (World.shaped_of_RefB (by kernel_rfl) (by kernel_rfl)) (by kernel_rfl) (by kernel_rfl) (by kernel_rfl) (door_met os _)) ?_
  intro W base args ds gs before hval hW _ _ hL _
  exact contract H enc W base args ds gs before hval hW (tab_of_laid hL)
theorem row : Rows.EditBackSaid :=
  OpenClaim.holds_of_wide 3 Tryd.f3 rfl rfl rfl rfl rfl rfl rfl ⟨rfl, rfl, rfl, rfl, rfl⟩ rfl rfl rfl rfl rfl (by kernel_rfl) Tryd.func3 (by kernel_rfl)
    (of_decide_eq_true (by kernel_rfl)) (by unfold Func.isWrapper; rw [if_neg (of_decide_eq_false (by kernel_rfl))]; exact ⟨rfl, rfl⟩)
    (fun os started H enc _ => lifted os started H enc)
theorem proved : Rows.EditBackCardSaid :=
  Claim7.holds_tied_plain_at .later [] [.data] true _ false row (fun _ h => by cases h) (by kernel_rfl) (fun _ h => by cases h) editBack_row_tie rfl ⟨rfl, rfl⟩ (by kernel_rfl) rfl
    (fun f fn hf hfn => by
      obtain rfl : f = 3 := Option.some.inj ((show Tryd.prog.funcNamed "offprint/offprintlaw19.EditBack" = some 3 by kernel_rfl).symm.trans hf) |>.symm
      obtain rfl : fn = Tryd.f3 := (Option.some.inj (Tryd.func3.symm.trans hfn)).symm
      exact ⟨by kernel_rfl, fun j t ht => by
        have hall : (Tryd.f3.params.toList.all fun u => !Tryd.prog.wantsStandIn u) = true := by kernel_rfl
        have hm := List.all_eq_true.1 hall t (by have := Array.mem_of_getElem? ht; simpa using this)
        show Tryd.prog.wantsStandIn t = false
        simpa using hm⟩)
    (by kernel_rfl)
end Go.Proofs.YtplipddgeanajaaDoor.clEditBack
