/-
  The walk of the statement EditTells: it answers true, whatever the edit and the bytes ahead. (Printed by gen19g.py.)
-/
import Derived.Test.YtjkjfnhplgcigaaDoorW19e
import Derived.Test.YtjkjfnhplgcigaaDoorW19f
import Derived.Test.YtjkjfnhplgcigaaDoorRel
namespace Go.Proofs.YtjkjfnhplgcigaaDoor
open Go.RowKit

def awakeE : Edit := ⟨6, 5, 2, pz⟩
theorem awakeE_arr : awakeE.arr = #[.int .i64 6, .int .i64 5, .int .i64 2, .int .u32 0, .int .u32 0, .int .i64 0, .int .i64 0, .string (str []), .int .i64 0, .int .i64 0, .string (str []), .int .i64 0, .int .i64 0, .string (str []), .int .i64 0, .int .i64 0, .string (str []), .int .i64 0, .int .i64 0, .string (str []), .int .i64 0, .int .i64 0, .string (str []), .int .i64 0, .int .i64 0, .string (str []), .int .i64 0, .int .i64 0, .string (str [])] := by unfold Edit.arr; rfl
theorem awakeE_put : editB awakeE = [6, 2, 5] := by decide +kernel
set_option maxHeartbeats 1000000 in
set_option maxRecDepth 100000 in
theorem c_law19_awake (w : World) (hT : Tab w) : Calls Tryd.prog 13 #[] w (RetV w (.bool true)) := by
  have hp := c_edit_Put [] none 0 awakeE w (In.nil (by omega)) (by simp) hT rfl (by decide) (by decide)
  rw [awakeE_arr] at hp
  have HP := Lib.hid hp
  clear hp
  go_enter Tryd.func13, Tryd.ntmps13
  go_wp2_with (fail)
  refine HP.out.mono ?_
  rintro e w5 ⟨v5, rfl, own5, hb5⟩
  rw [List.nil_append, awakeE_put] at own5
  obtain ⟨A2, c2, rfl, in2⟩ := In.of_own bc_len own5 (by simp)
  have kc : (convert 30 9 (.slice A2 3 c2)).run Tryd.prog w5 = .ok (.string (str [6, 2, 5])) w5 := conv_str w5 Tryd.underlying30 Tryd.underlying5 Tryd.underlying9 in2
  clear own5 in2
  go_wp2_with (fail)
  go_ret
  exact RetV.bool rfl hb5
theorem editB_len (e : Edit) : (editB e).length ≤ 353 := by
  have h1 := (num_len e.kind).2
  have h2 := (num_len e.group).2
  have h3 := (num_len e.id).2
  have h4 := patchB_len e.p
  unfold editB
  cases hasG e.kind <;> cases hasI e.kind <;> cases hasP e.kind <;> split <;> simp <;> omega
theorem Edit.fpart {e : Edit} {w : World} {g : Nat} (h : Blk w g e.arr) (j : Nat) (u : Value) (hu : (farr e.p.f)[j]? = some u) : w.cell? ⟨g, 5 + j, none⟩ = some u := by
  have := Edit.part h (2 + j) u (by rw [Patch.arr_tail]; exact hu)
  rwa [← Nat.add_assoc] at this
set_option maxHeartbeats 1000000 in
set_option maxRecDepth 4000 in
theorem law19_Tells_long (e : Edit) (B : Option Addr) (nb cb : Nat) (w : World) (hT : Tab w) (hf : e.p.f.length = 8) (h : longF e.p.f = true ∨ 500 < nb) :
    Calls Tryd.prog 3 #[.agg e.arr, .slice B nb cb] w (RetV w (.bool true)) := by
  have HF := Lib.hid hf
  clear hf
  have B0 := Lib.hid (Blk.new w 29 e.arr)
  cases h1 : longF e.p.f
  case true =>
    go_enter Tryd.func3, Tryd.ntmps3
    go_wp2_with (with_reducible refine stop_load 25 (.tmp 6) rfl rfl ?_)
    refine Stop.mk (wpList_loadAt rfl _ _ rfl w.heap.size 5 rfl (farr e.p.f) (Edit.fpart B0.out) strF (by rw [farr_size, HF.out]) ?_)
    go_wp2_with (fail)
    refine (c_Large e.p.f _ HF.out).mono ?_
    rintro e1 w1 ⟨rfl, hb1⟩
    have hb1' : Below w.heap.size w w1 := ((Below.refl _ _).alloc (Nat.le_refl _) _).trans (hb1.mono (by simp))
    go_wp2_with (fail)
    refine (c_law19_awake _ (hT.below hb1')).mono ?_
    rintro e2 w2 ⟨rfl, hb2⟩
    go_wp2_with (fail)
    go_ret
    exact RetV.bool rfl (hb1'.trans (hb2.mono hb1'.size))
  case false =>
    rw [h1] at h
    have h5 := h.resolve_left (by simp)
    clear h
    go_enter Tryd.func3, Tryd.ntmps3
    go_wp2_with (with_reducible refine stop_load 25 (.tmp 6) rfl rfl ?_)
    refine Stop.mk (wpList_loadAt rfl _ _ rfl w.heap.size 5 rfl (farr e.p.f) (Edit.fpart B0.out) strF (by rw [farr_size, HF.out]) ?_)
    go_wp2_with (fail)
    refine (c_Large e.p.f _ HF.out).mono ?_
    rintro e1 w1 ⟨rfl, hb1⟩
    have hb1' : Below w.heap.size w w1 := ((Below.refl _ _).alloc (Nat.le_refl _) _).trans (hb1.mono (by simp))
    go_wp2_with (fail)
    refine (c_law19_awake _ (hT.below hb1')).mono ?_
    rintro e2 w2 ⟨rfl, hb2⟩
    go_wp2_with (fail)
    go_ret
    exact RetV.bool rfl (hb1'.trans (hb2.mono hb1'.size))
set_option maxHeartbeats 8000000 in
set_option maxRecDepth 4000 in
theorem c_law19_EditTells (e : Edit) (B : Option Addr) (nb cb : Nat) (w : World) (hf : e.p.f.length = 8) (hm : e.p.mask < 4294967296) (hT : Tab w) (hb : nb ≤ 500 → ∃ b, b.length = nb ∧ InB w B cb b) :
    Calls Tryd.prog 3 #[.agg e.arr, .slice B nb cb] w (RetV w (.bool true)) := by
  by_cases hlong : longF e.p.f = true ∨ 500 < nb
  · exact law19_Tells_long e B nb cb w hT hf hlong
  have h1 : longF e.p.f = false := by cases h : longF e.p.f <;> simp_all
  obtain ⟨b, rfl, hib⟩ := hb (by omega)
  have hbl : b.length ≤ 500 := by omega
  have hs : ∀ x ∈ e.p.f, x.s.length ≤ 4294967000 := fun x hx => by have := List.any_eq_false.1 h1 x hx; simp at this; omega
  have HF := Lib.hid hf
  have Hs := Lib.hid hs
  have HB := Lib.hid hib
  have HT := Lib.hid hT
  have HZ := Lib.hid (Edit.size hf)
  have B0 := Lib.hid (Blk.new w 29 e.arr)
  obtain ⟨lv, hlv⟩ : ∃ l, l = b ++ editB e := ⟨_, rfl⟩
  have mv := editB_len e
  have nv : lv.length ≤ 1000 := by rw [hlv, List.length_append]; omega
  have bv : ¬ 9223372036854775807 < b.length + (editB e).length := by omega
  have LV := Lib.hid hlv
  clear hf hs hib hT hlv hlong hb
  have kb := fun (w' : World) (hw : Below w.heap.size w w') => conv_str (P := Tryd.prog) w' Tryd.underlying30 Tryd.underlying5 Tryd.underlying9 (HB.out.below hw)
  have KB := Lib.hid kb
  clear kb
  go_enter Tryd.func3, Tryd.ntmps3
  go_wp2_with (with_reducible refine stop_load 25 (.tmp 6) rfl rfl ?_)
  refine Stop.mk (wpList_loadAt rfl _ _ rfl w.heap.size 5 rfl (farr e.p.f) (Edit.fpart B0.out) strF (by rw [farr_size, HF.out]) ?_)
  go_wp2_with (fail)
  refine (c_Large e.p.f _ HF.out).mono ?_
  rintro e1 w2 ⟨rfl, hb2⟩
  have hbl2 : Below w.heap.size w w2 := ((Below.refl _ _).alloc (Nat.le_refl _) _).trans (hb2.mono (by simp))
  have BC := Lib.hid (B0.out.below hb2 (by simp))
  have hz2 := hbl2.size
  clear hb2 B0
  go_wp2_with (fail)
  refine wp_region_rel [Sp.eq (.agg e.arr), Sp.eq (.int .i64 e.code), Sp.eq (.agg e.arr), Sp.eq (.int .i64 e.code), Sp.eq (.bool true), Sp.eq (.bool true), Sp.eq (.agg e.arr), Sp.eq (.int .i64 e.touch), Sp.eq (.agg e.arr), Sp.eq (.int .i64 e.touch), Sp.eq (.bool true), Sp.eq (.bool true), Sp.eq (.bool true), Sp.eq (.slice B b.length cb), Sp.eq (.agg e.arr), Sp.slice 1 bc lv, Sp.eq (.string (str lv)), Sp.eq (.slice B b.length cb), Sp.eq (.string (str b)), Sp.eq (.agg e.arr), Sp.eq (.string (str (editB e))), Sp.eq (.string (str lv)), Sp.eq (.bool true), Sp.eq (.bool true), Sp.eq (.bool true), Sp.eq (.bool true), Sp.eq (.bool true), Sp.eq (.bool true)] 42 (by kernel_rfl) (by kernel_rfl) rfl rfl ?_ ?_
  · refine ⟨?_, ?_, ?_, ?_, ?_, ?_, ?_, ?_, ?_, ?_, ?_, ?_, ?_, ?_, ?_, ?_, ?_, ?_, ?_, ?_, ?_, ?_, ?_, ?_, ?_, ?_, ?_, ?_, trivial⟩
    all_goals (intro u w3 hb3 hd; have hbw : Below w.heap.size w w3 := hbl2.trans (hb3.mono hz2); simp [Deps, Region.binds, Sp.slice_holds, Sp.eq_holds] at hd; simp only [putDeps, dstOf, Region.binds])
    case refine_1 =>
      go_wp2_with (with_reducible refine stop_loadG 29 (.tmp 2) rfl ?_)
      refine Stop.mk (wpList_loadAtG (by simp [Region.wanted]) _ _ rfl w.heap.size 0 rfl e.arr (BC.out.below hb3 BC.out.lt).all strE HZ.out ?_)
      go_wp2_with (fail)
      exact RelEnd.mk rfl (Below.refl _ _) rfl
    case refine_2 =>
      go_wp2_with (go_at_call 14; refine (c_edit_Check e _ HF.out Hs.out hm).mono ?_; rintro e4 w4 ⟨rfl, hb4⟩)
      exact RelEnd.mk rfl hb4 rfl
    case refine_3 =>
      go_wp2_with (with_reducible refine stop_loadG 29 (.tmp 2) rfl ?_)
      refine Stop.mk (wpList_loadAtG (by simp [Region.wanted]) _ _ rfl w.heap.size 0 rfl e.arr (BC.out.below hb3 BC.out.lt).all strE HZ.out ?_)
      go_wp2_with (fail)
      exact RelEnd.mk rfl (Below.refl _ _) rfl
    case refine_4 =>
      go_wp2_with (go_at_call 15; refine (c_ref19_Check e _ HF.out Hs.out hm).mono ?_; rintro e4 w4 ⟨rfl, hb4⟩)
      exact RelEnd.mk rfl hb4 rfl
    case refine_5 =>
      go_wp2_with (fail); exact RelEnd.mk rfl (Below.refl _ _) rfl
    case refine_6 =>
      go_wp2_with (fail); exact RelEnd.mk rfl (Below.refl _ _) rfl
    case refine_7 =>
      go_wp2_with (with_reducible refine stop_loadG 29 (.tmp 2) rfl ?_)
      refine Stop.mk (wpList_loadAtG (by simp [Region.wanted, yielded]) _ _ rfl w.heap.size 0 rfl e.arr (BC.out.below hb3 BC.out.lt).all strE HZ.out ?_)
      go_wp2_with (fail)
      exact RelEnd.mk rfl (Below.refl _ _) rfl
    case refine_8 =>
      go_wp2_with (go_at_call 16; refine (c_edit_Touches e _ HF.out Hs.out hm).mono ?_; rintro e4 w4 ⟨rfl, hb4⟩)
      exact RelEnd.mk rfl hb4 rfl
    case refine_9 =>
      go_wp2_with (with_reducible refine stop_loadG 29 (.tmp 2) rfl ?_)
      refine Stop.mk (wpList_loadAtG (by simp [Region.wanted, yielded]) _ _ rfl w.heap.size 0 rfl e.arr (BC.out.below hb3 BC.out.lt).all strE HZ.out ?_)
      go_wp2_with (fail)
      exact RelEnd.mk rfl (Below.refl _ _) rfl
    case refine_10 =>
      go_wp2_with (go_at_call 17; refine (c_ref19_Touches e _ HF.out Hs.out hm).mono ?_; rintro e4 w4 ⟨rfl, hb4⟩)
      exact RelEnd.mk rfl hb4 rfl
    case refine_11 =>
      go_wp2_with (fail); exact RelEnd.mk rfl (Below.refl _ _) rfl
    case refine_12 =>
      go_wp2_with (fail); exact RelEnd.mk rfl (Below.refl _ _) rfl
    case refine_13 =>
      go_wp2_with (fail); exact RelEnd.mk rfl (Below.refl _ _) rfl
    case refine_14 =>
      go_wp2_with (fail); exact RelEnd.mk rfl (Below.refl _ _) rfl
    case refine_15 =>
      go_wp2_with (with_reducible refine stop_loadG 29 (.tmp 2) rfl ?_)
      refine Stop.mk (wpList_loadAtG (by simp [Region.wanted, yielded]) _ _ rfl w.heap.size 0 rfl e.arr (BC.out.below hb3 BC.out.lt).all strE HZ.out ?_)
      go_wp2_with (fail)
      exact RelEnd.mk rfl (Below.refl _ _) rfl
    case refine_16 =>
      go_wp2_with (go_at_call 18; refine (c_edit_Put b B cb e _ (HB.out.below hbw) (by omega) (HT.out.below hbw) HF.out Hs.out hm).mono ?_; rintro e4 w4 ⟨v3, rfl, own3, hb4⟩)
      rw [← LV.out] at own3
      exact RelEnd.mk rfl hb4 (In.of_own bc_len own3 (by omega))
    case refine_17 =>
      obtain ⟨⟨A2, c2, d0, d1⟩, d2⟩ := hd
      have kc' : (convert 30 9 (u 15)).run Tryd.prog w3 = .ok (.string (str lv)) w3 := by rw [d0]; exact conv_str (P := Tryd.prog) w3 Tryd.underlying30 Tryd.underlying5 Tryd.underlying9 d1
      clear d0 d1
      go_wp2_with (fail); exact RelEnd.mk rfl (Below.refl _ _) rfl
    case refine_18 =>
      go_wp2_with (fail); exact RelEnd.mk rfl (Below.refl _ _) rfl
    case refine_19 =>
      have kc := KB.out w3 hbw
      go_wp2_with (fail); exact RelEnd.mk rfl (Below.refl _ _) rfl
    case refine_20 =>
      go_wp2_with (with_reducible refine stop_loadG 29 (.tmp 2) rfl ?_)
      refine Stop.mk (wpList_loadAtG (by simp [Region.wanted, yielded]) _ _ rfl w.heap.size 0 rfl e.arr (BC.out.below hb3 BC.out.lt).all strE HZ.out ?_)
      go_wp2_with (fail)
      exact RelEnd.mk rfl (Below.refl _ _) rfl
    case refine_21 =>
      go_wp2_with (go_at_call 19; refine (c_ref19_Put e _ HF.out Hs.out hm).mono ?_; rintro e4 w4 ⟨rfl, hb4⟩)
      exact RelEnd.mk rfl hb4 rfl
    case refine_22 =>
      go_wp2_with (fail)
      exact RelEnd.mk rfl (Below.refl _ _) (by show _ = _; rw [LV.out]; rfl)
    case refine_23 =>
      go_wp2_with (fail); exact RelEnd.mk rfl (Below.refl _ _) rfl
    case refine_24 =>
      go_wp2_with (fail); exact RelEnd.mk rfl (Below.refl _ _) rfl
    case refine_25 =>
      go_wp2_with (fail); exact RelEnd.mk rfl (Below.refl _ _) rfl
    case refine_26 =>
      go_wp2_with (go_at_call 13; refine (c_law19_awake _ (HT.out.below hbw)).mono ?_; rintro e4 w4 ⟨rfl, hb4⟩)
      exact RelEnd.mk rfl hb4 rfl
    case refine_27 =>
      go_wp2_with (fail); exact RelEnd.mk rfl (Below.refl _ _) rfl
    case refine_28 =>
      go_wp2_with (fail); exact RelEnd.mk rfl (Below.refl _ _) rfl
  · intro u w3 hb3 hold
    simp only [RelHold, Sp.eq_holds] at hold
    obtain ⟨-, -, -, -, -, -, -, -, -, -, -, -, -, -, -, -, -, -, -, -, -, -, -, -, -, -, -, dL, -⟩ := hold
    simp only [putAll, Act.put, Nat.reduceAdd, List.setIfInBounds_toArray, List.set_cons_zero, List.set_cons_succ]
    have hbw : Below w.heap.size w w3 := hbl2.trans (hb3.mono hz2)
    clear KB HB BC Hs HT hb3 hbl2
    go_wp2_with (fail)
    go_ret
    exact RetV.of dL hbw
end Go.Proofs.YtjkjfnhplgcigaaDoor
