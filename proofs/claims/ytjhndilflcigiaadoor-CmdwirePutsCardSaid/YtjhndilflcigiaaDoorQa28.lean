/-
  The walk of the statement CmdwirePuts: it answers true, whatever the commands and the bytes. (Printed by gen33g.py.)
-/
import Derived.Test.YtjhndilflcigiaaDoorQa27
import Derived.Test.YtjhndilflcigiaaDoorRows
import Derived.WalkKit
import Derived.WalkSpells
import Derived.WalkLawsBesides
import Derived.Lib.Hide
import Derived.Deep.QuietTactic
import Derived.BigQuiet
import Derived.Maps.AppendAt
import Derived.WalkSmall
import Derived.ProofKit
import Derived.OpenShut
import Derived.JoinedCond
import Derived.Deep.Slices
import Derived.Deep.Fields
import Derived.Carry
import Derived.Deep.AppendSrc
import Derived.Lib.AppendStr
import Derived.Laws.BytesArg
import Derived.Test.YtjhndilflcigiaaDoorProg
import Derived.Shelf.Spec.TrailingZeros
import Derived.RangeFuncNested
import Derived.RangeFuncBound
import Derived.RangeFuncCalls
import Derived.RangeFuncLeaves
import Derived.Shelf.Abstract
import Derived.Shelf.RegionOpen
import Derived.OwnWalkIn
import Derived.TacticsInMore
import Derived.LoopNIn
import Derived.LoopIn
import Derived.Test.YtjhndilflcigiaaDoorTie
import Derived.Lib.LaidTab
import Derived.LaidMore
import Derived.SevenTiedAt
import Derived.Test.YtjhndilflcigiaaDoorCards
import Derived.Laws.Tables
import Derived.Laws.Rows
import Derived.ChangeKeysEq
import Derived.Laws.StructEq
import Derived.Deep.CutBlock
import Derived.Deep.DeepCutAuto
import Derived.Laws.CopyOwn
import Derived.Outline
import Derived.IntWalk
import Derived.Lib.EndianBits
import Derived.StillTail
import Derived.Lib.AppendZeros
import Derived.Deep.Quiet
namespace Go.Proofs.YtjhndilflcigiaaDoor
open Go.RowKit

theorem cmd_ef {w : World} {g : Nat} {c : Cmd} {A : Option Addr} {n : Nat} (h : c.wf) (hb : Blk w g (c.arr A n)) (j : Nat) (u : Value) (hu : (farr c.e.p.f)[j]? = some u) : w.cell? ⟨g, 6 + j, none⟩ = some u := by
  have e1 : c.e.arr[3 + (2 + j)]? = some u := by rw [Edit.arr_tail, Patch.arr_tail]; exact hu
  have := cmd_edit h hb (3 + (2 + j)) u e1
  rwa [show 1 + (3 + (2 + j)) = 6 + j by omega] at this
theorem cmd_pf {w : World} {g : Nat} {c : Cmd} {A : Option Addr} {n : Nat} (h : c.wf) (hb : Blk w g (c.arr A n)) (j : Nat) (u : Value) (hu : (farr c.p.f)[j]? = some u) : w.cell? ⟨g, 37 + j, none⟩ = some u := by
  have := cmd_patch h hb (2 + j) u (by rw [Patch.arr_tail]; exact hu)
  rwa [show 35 + (2 + j) = 37 + j by omega] at this
set_option maxHeartbeats 1000000 in
set_option maxRecDepth 4000 in
theorem c_law32_Large (c : Cmd) (A : Option Addr) (n : Nat) (bf : Bool) (w : World) (hwf : c.wf) (k : ∀ w', Below w.heap.size w w' → Calls Tryd.prog 34 #[.slice A c.f.length n] w' (RetV w' (.bool bf))) :
    Calls Tryd.prog 9 #[.agg (c.arr A n)] w (RetV w (.bool (longF c.e.p.f || (longF c.p.f || bf)))) := by
  have hw := Lib.hid hwf
  have HK := Lib.hid k
  have B0 := Lib.hid (At.new w 32 (c.arr A n))
  clear hwf k
  cases h1 : longF c.e.p.f
  all_goals
    go_enter Tryd.func9, Tryd.ntmps9
    go_wp2_with (with_reducible refine stop_loadG 25 (.tmp 5) rfl ?_)
    refine Stop.mk (wpList_loadAtG (by rfl) _ _ rfl w.heap.size 6 rfl (farr c.e.p.f) (cmd_ef hw.out B0.out.2) strF (by rw [farr_size, hw.out.e]) ?_)
    go_wp2_with (fail)
    refine (c_Large c.e.p.f _ hw.out.e).mono ?_
    rintro e w1 ⟨rfl, hb1⟩
    replace B0 := Lib.hid (B0.out.step hb1)
    rw [h1]
    clear hb1
  rotate_left
  · go_wp2_with (fail)
    go_ret
    exact RetV.bool rfl B0.out.1
  · clear h1
    cases h2 : longF c.p.f
    all_goals
      go_wp2_with (with_reducible refine stop_loadG 25 (.tmp 10) rfl ?_)
      refine Stop.mk (wpList_loadAtG (by rfl) _ _ rfl w.heap.size 37 rfl (farr c.p.f) (cmd_pf hw.out B0.out.2) strF (by rw [farr_size, hw.out.p]) ?_)
      go_wp2_with (fail)
      refine (c_Large c.p.f _ hw.out.p).mono ?_
      rintro e w2 ⟨rfl, hb2⟩
      replace B0 := Lib.hid (B0.out.step hb2)
      rw [h2]
      have H2 := Lib.hid h2
      clear hb2 h2
    rotate_left
    · go_wp2_with (fail)
      go_ret
      exact RetV.bool (by rw [H2.out]; rfl) B0.out.1
    · obtain ⟨q0, q1, q2, q3, q4, q5, q6, q7⟩ := cmd_cells hw.out B0.out.2
      go_wp2_with (fail)
      refine (HK.out _ B0.out.1).mono ?_
      rintro e w3 ⟨rfl, hb3⟩
      go_wp2_with (fail)
      go_ret
      exact RetV.bool (by rw [H2.out]; simp) (B0.out.1.trans (hb3.mono B0.out.1.size))
def awakeC : Cmd := ⟨4, ez, 2, 7, 0, 0, 0, pz, [], 0⟩
theorem awakeC_arr : awakeC.arr none 0 = #[.int .i64 4, .int .i64 0, .int .i64 0, .int .i64 0, .int .u32 0, .int .u32 0, .int .i64 0, .int .i64 0, .string (str []), .int .i64 0, .int .i64 0, .string (str []), .int .i64 0, .int .i64 0, .string (str []), .int .i64 0, .int .i64 0, .string (str []), .int .i64 0, .int .i64 0, .string (str []), .int .i64 0, .int .i64 0, .string (str []), .int .i64 0, .int .i64 0, .string (str []), .int .i64 0, .int .i64 0, .string (str []), .int .i64 2, .int .i64 7, .int .i64 0, .int .i64 0, .int .i64 0, .int .u32 0, .int .u32 0, .int .i64 0, .int .i64 0, .string (str []), .int .i64 0, .int .i64 0, .string (str []), .int .i64 0, .int .i64 0, .string (str []), .int .i64 0, .int .i64 0, .string (str []), .int .i64 0, .int .i64 0, .string (str []), .int .i64 0, .int .i64 0, .string (str []), .int .i64 0, .int .i64 0, .string (str []), .int .i64 0, .int .i64 0, .string (str []), .slice none 0 0, .int .u32 0] := by unfold Cmd.arr Edit.arr Patch.arr; rfl
theorem awakeC_put : cmdB awakeC = [4, 2, 7] := by decide +kernel
set_option maxHeartbeats 1000000 in
set_option maxRecDepth 100000 in
theorem c_law33_awake (w : World) (hT : Tab w) : Calls Tryd.prog 10 #[] w (RetV w (.bool true)) := by
  have hp := c_cmdwire_Put [] none 0 awakeC none 0 w (In.nil (by omega)) (by simp) hT ⟨rfl, rfl⟩ ⟨⟨by decide, by decide⟩, ⟨by decide, by decide⟩, ⟨by decide, by decide⟩, ⟨by decide, by decide⟩, ⟨by decide, by decide⟩⟩ (In.nil (by omega)) (by intro x hx; cases hx) (by decide) (by decide) (by decide) (by decide) (by decide)
  rw [awakeC_arr] at hp
  have HP := Lib.hid hp
  clear hp
  go_enter Tryd.func10, Tryd.ntmps10
  go_wp2_with (fail)
  refine HP.out.mono ?_
  rintro e w5 ⟨v5, rfl, own5, hb5⟩
  rw [List.nil_append, awakeC_put] at own5
  obtain ⟨A2, c2, rfl, in2⟩ := In.of_own bc_len own5 (by simp)
  have kc : (convert 33 9 (.slice A2 3 c2)).run Tryd.prog w5 = .ok (.string (str [4, 2, 7])) w5 := conv_str w5 Tryd.underlying33 Tryd.underlying5 Tryd.underlying9 in2
  clear own5 in2
  go_wp2_with (fail)
  go_ret
  exact RetV.bool rfl hb5
set_option maxHeartbeats 1000000 in
set_option maxRecDepth 4000 in
theorem law33_Puts_long (c o : Cmd) (A O B : Option Addr) (n m nb cb : Nat) (b1 b2 : Bool) (w : World) (hT : Tab w) (hwc : c.wf) (hwo : o.wf) (k1 : ∀ w', Below w.heap.size w w' → Calls Tryd.prog 9 #[.agg (c.arr A n)] w' (RetV w' (.bool b1))) (k2 : ∀ w', Below w.heap.size w w' → Calls Tryd.prog 9 #[.agg (o.arr O m)] w' (RetV w' (.bool b2))) (h : b1 = true ∨ b2 = true ∨ 500 < nb) :
    Calls Tryd.prog 3 #[.agg (c.arr A n), .agg (o.arr O m), .slice B nb cb] w (RetV w (.bool true)) := by
  have B0 := Lib.hid (C2.new w 32 32 c o A O n m)
  have hc := Lib.hid hwc
  have ho := Lib.hid hwo
  have HK1 := Lib.hid k1
  have HK2 := Lib.hid k2
  have HT := Lib.hid hT
  clear hwc hwo k1 k2 hT
  cases b1
  case true =>
    clear h
    go_enter Tryd.func3, Tryd.ntmps3
    go_wp2_with (with_reducible refine stop_loadG 32 (.tmp 3) rfl ?_)
    refine Stop.mk (wpList_loadAtG (by rfl) _ _ rfl w.heap.size 0 rfl (c.arr A n) (B0.out.a).all strCm (Cmd.arr_size hc.out) ?_)
    go_wp2_with (fail)
    refine (HK1.out _ B0.out.below).mono ?_
    rintro e1 w1 ⟨rfl, hb1⟩
    replace B0 := Lib.hid (B0.out.step hb1)
    clear hb1
    go_wp2_with (fail)
    refine (c_law33_awake _ (HT.out.below B0.out.below)).mono ?_
    rintro e2 w2 ⟨rfl, hb2⟩
    go_wp2_with (fail)
    go_ret
    exact RetV.bool rfl (B0.out.below.trans (hb2.mono B0.out.below.size))
  case false =>
    cases b2
    case true =>
      clear h
      go_enter Tryd.func3, Tryd.ntmps3
      go_wp2_with (with_reducible refine stop_loadG 32 (.tmp 3) rfl ?_)
      refine Stop.mk (wpList_loadAtG (by rfl) _ _ rfl w.heap.size 0 rfl (c.arr A n) (B0.out.a).all strCm (Cmd.arr_size hc.out) ?_)
      go_wp2_with (fail)
      refine (HK1.out _ B0.out.below).mono ?_
      rintro e1 w1 ⟨rfl, hb1⟩
      replace B0 := Lib.hid (B0.out.step hb1)
      clear hb1
      go_wp2_with (with_reducible refine stop_loadG 32 (.tmp 4) rfl ?_)
      refine Stop.mk (wpList_loadAtG (by rfl) _ _ rfl (w.heap.size + 1) 0 rfl (o.arr O m) (B0.out.b).all strCm (Cmd.arr_size ho.out) ?_)
      go_wp2_with (fail)
      refine (HK2.out _ B0.out.below).mono ?_
      rintro e1 w1 ⟨rfl, hb1⟩
      replace B0 := Lib.hid (B0.out.step hb1)
      clear hb1
      go_wp2_with (fail)
      refine (c_law33_awake _ (HT.out.below B0.out.below)).mono ?_
      rintro e2 w2 ⟨rfl, hb2⟩
      go_wp2_with (fail)
      go_ret
      exact RetV.bool rfl (B0.out.below.trans (hb2.mono B0.out.below.size))
    case false =>
      have h5 : 500 < nb := by simpa using h
      clear h
      go_enter Tryd.func3, Tryd.ntmps3
      go_wp2_with (with_reducible refine stop_loadG 32 (.tmp 3) rfl ?_)
      refine Stop.mk (wpList_loadAtG (by rfl) _ _ rfl w.heap.size 0 rfl (c.arr A n) (B0.out.a).all strCm (Cmd.arr_size hc.out) ?_)
      go_wp2_with (fail)
      refine (HK1.out _ B0.out.below).mono ?_
      rintro e1 w1 ⟨rfl, hb1⟩
      replace B0 := Lib.hid (B0.out.step hb1)
      clear hb1
      go_wp2_with (with_reducible refine stop_loadG 32 (.tmp 4) rfl ?_)
      refine Stop.mk (wpList_loadAtG (by rfl) _ _ rfl (w.heap.size + 1) 0 rfl (o.arr O m) (B0.out.b).all strCm (Cmd.arr_size ho.out) ?_)
      go_wp2_with (fail)
      refine (HK2.out _ B0.out.below).mono ?_
      rintro e1 w1 ⟨rfl, hb1⟩
      replace B0 := Lib.hid (B0.out.step hb1)
      clear hb1
      go_wp2_with (fail)
      refine (c_law33_awake _ (HT.out.below B0.out.below)).mono ?_
      rintro e2 w2 ⟨rfl, hb2⟩
      go_wp2_with (fail)
      go_ret
      exact RetV.bool rfl (B0.out.below.trans (hb2.mono B0.out.below.size))
set_option maxHeartbeats 8000000 in
set_option maxRecDepth 4000 in
theorem c_law33_CmdwirePuts (c o : Cmd) (b : List UInt8) (A O B : Option Addr) (n m cb : Nat) (w : World) (hT : Tab w) (hwc : c.wf) (hwo : o.wf) (k1 : ∀ w', Below w.heap.size w w' → Calls Tryd.prog 9 #[.agg (c.arr A n)] w' (RetV w' (.bool false))) (k2 : ∀ w', Below w.heap.size w w' → Calls Tryd.prog 9 #[.agg (o.arr O m)] w' (RetV w' (.bool false)))
    (hr : c.rng) (hI : InN w A n c.f) (hO : InN w O m o.f) (hs : ∀ x ∈ c.f, x.v.s.length ≤ 4294967000) (hse : ∀ x ∈ c.e.p.f, x.s.length ≤ 4294967000) (hsp : ∀ x ∈ c.p.f, x.s.length ≤ 4294967000) (hme : c.e.p.mask < 4294967296) (hmp : c.p.mask < 4294967296) (hm : c.mask < 4294967296)
    (hb : InB w B cb b) (hbl : b.length ≤ 500) :
    Calls Tryd.prog 3 #[.agg (c.arr A n), .agg (o.arr O m), .slice B b.length cb] w (RetV w (.bool true)) := by
  have B0 := Lib.hid (C2.new w 32 32 c o A O n m)
  have hc := Lib.hid hwc
  have ho := Lib.hid hwo
  have HK1 := Lib.hid k1
  have HK2 := Lib.hid k2
  have HT := Lib.hid hT
  have HR := Lib.hid hr
  have HI := Lib.hid hI
  have HO := Lib.hid hO
  have Hs := Lib.hid hs
  have Hse := Lib.hid hse
  have Hsp := Lib.hid hsp
  have HB := Lib.hid hb
  obtain ⟨lv, hlv⟩ : ∃ l, l = b ++ cmdB c := ⟨_, rfl⟩
  have mv := cmdB_len c
  have nv : lv.length ≤ 2500 := by rw [hlv, List.length_append]; omega
  have bv : ¬ 9223372036854775807 < b.length + (cmdB c).length := by omega
  have LV := Lib.hid hlv
  have kb := fun (w' : World) (hw : Below w.heap.size w w') => conv_str (P := Tryd.prog) w' Tryd.underlying33 Tryd.underlying5 Tryd.underlying9 (HB.out.below hw)
  have KB := Lib.hid kb
  clear hwc hwo k1 k2 hT hr hI hO hs hse hsp hb hlv kb
  go_enter Tryd.func3, Tryd.ntmps3
  go_wp2_with (with_reducible refine stop_loadG 32 (.tmp 3) rfl ?_)
  refine Stop.mk (wpList_loadAtG (by rfl) _ _ rfl w.heap.size 0 rfl (c.arr A n) (B0.out.a).all strCm (Cmd.arr_size hc.out) ?_)
  go_wp2_with (fail)
  refine (HK1.out _ B0.out.below).mono ?_
  rintro e1 w1 ⟨rfl, hb1⟩
  replace B0 := Lib.hid (B0.out.step hb1)
  clear hb1
  go_wp2_with (with_reducible refine stop_loadG 32 (.tmp 4) rfl ?_)
  refine Stop.mk (wpList_loadAtG (by rfl) _ _ rfl (w.heap.size + 1) 0 rfl (o.arr O m) (B0.out.b).all strCm (Cmd.arr_size ho.out) ?_)
  go_wp2_with (fail)
  refine (HK2.out _ B0.out.below).mono ?_
  rintro e1 w1 ⟨rfl, hb1⟩
  replace B0 := Lib.hid (B0.out.step hb1)
  clear hb1
  have BC := Lib.hid B0.out
  have hz := B0.out.below.size
  go_wp2_with (fail)
  refine wp_region_rel [Sp.eq (.slice B b.length cb), Sp.eq (.agg (c.arr A n)), Sp.slice 1 bc lv, Sp.eq (.string (str lv)), Sp.eq (.slice B b.length cb), Sp.eq (.string (str b)), Sp.eq (.agg (c.arr A n)), Sp.eq (.string (str (cmdB c))), Sp.eq (.string (str lv)), Sp.eq (.bool true), Sp.eq (.bool true), Sp.eq (.agg (c.arr A n)), Sp.eq (.agg (o.arr O m)), Sp.eq (.bool (decide (c = o))), Sp.eq (.agg (c.arr A n)), Sp.eq (.agg (o.arr O m)), Sp.eq (.bool (decide (c = o))), Sp.eq (.bool true), Sp.eq (.bool true), Sp.eq (.bool true), Sp.eq (.agg (c.arr A n)), Sp.eq (.agg (c.arr A n)), Sp.eq (.bool true), Sp.eq (.bool true), Sp.eq (.bool true), Sp.eq (.bool true), Sp.eq (.bool true), Sp.eq (.bool true)] 46 (by kernel_rfl) (by kernel_rfl) rfl rfl ?_ ?_
  · refine ⟨?_, ?_, ?_, ?_, ?_, ?_, ?_, ?_, ?_, ?_, ?_, ?_, ?_, ?_, ?_, ?_, ?_, ?_, ?_, ?_, ?_, ?_, ?_, ?_, ?_, ?_, ?_, ?_, trivial⟩
    all_goals (intro u W2 hb2 hd; have hbw : Below w.heap.size w W2 := B0.out.below.trans (hb2.mono hz); simp [Deps, Region.binds, Sp.slice_holds, Sp.eq_holds] at hd; simp only [putDeps, dstOf, Region.binds])
    case refine_1 =>
      go_wp2_with (fail); exact RelEnd.mk rfl (Below.refl _ _) rfl
    case refine_2 =>
      go_wp2_with (with_reducible refine stop_loadG 32 _ rfl ?_)
      refine Stop.mk (wpList_loadAtG (by simp [Region.wanted]) _ _ rfl w.heap.size 0 rfl (c.arr A n) ((BC.out.a.below hb2 BC.out.a.lt).all) strCm (Cmd.arr_size hc.out) ?_)
      go_wp2_with (fail); exact RelEnd.mk rfl (Below.refl _ _) rfl
    case refine_3 =>
      go_wp2_with (go_at_call 11; refine (c_cmdwire_Put b B cb c A n _ (HB.out.below hbw) (by omega) (HT.out.below hbw) hc.out HR.out (HI.out.below hbw) Hs.out Hse.out Hsp.out hme hmp hm).mono ?_; rintro e3 W3 ⟨v3, rfl, own3, hb3⟩)
      rw [← LV.out] at own3
      exact RelEnd.mk rfl hb3 (In.of_own bc_len own3 (by omega))
    case refine_4 =>
      have hx : (Sp.slice 1 bc lv).holds (u 2) W2 := by first | exact hd | exact hd.1 | exact hd.2 | exact hd.2.1 | exact hd.2.2 | exact hd.1.1 | exact hd.1.2 | exact hd.2.2.1 | exact hd.2.2.2
      obtain ⟨A4, c4, d0, d1⟩ := hx
      have kc' : (convert 33 9 (u 2)).run Tryd.prog W2 = .ok (.string (str lv)) W2 := by rw [d0]; exact conv_str (P := Tryd.prog) W2 Tryd.underlying33 Tryd.underlying5 Tryd.underlying9 d1
      clear d0 d1
      go_wp2_with (fail); exact RelEnd.mk rfl (Below.refl _ _) rfl
    case refine_5 =>
      go_wp2_with (fail); exact RelEnd.mk rfl (Below.refl _ _) rfl
    case refine_6 =>
      have kc := KB.out W2 hbw
      go_wp2_with (fail); exact RelEnd.mk rfl (Below.refl _ _) rfl
    case refine_7 =>
      go_wp2_with (with_reducible refine stop_loadG 32 _ rfl ?_)
      refine Stop.mk (wpList_loadAtG (by simp [Region.wanted]) _ _ rfl w.heap.size 0 rfl (c.arr A n) ((BC.out.a.below hb2 BC.out.a.lt).all) strCm (Cmd.arr_size hc.out) ?_)
      go_wp2_with (fail); exact RelEnd.mk rfl (Below.refl _ _) rfl
    case refine_8 =>
      go_wp2_with (go_at_call 12; refine (c_ref33_Put c A n _ hc.out HR.out (HI.out.below hbw) Hs.out Hse.out Hsp.out hme hmp hm).mono ?_; rintro e3 W3 ⟨rfl, hb3⟩)
      exact RelEnd.mk rfl hb3 rfl
    case refine_9 =>
      go_wp2_with (fail)
      exact RelEnd.mk rfl (Below.refl _ _) (by show _ = _; rw [LV.out]; rfl)
    case refine_10 =>
      go_wp2_with (fail); exact RelEnd.mk rfl (Below.refl _ _) rfl
    case refine_11 =>
      go_wp2_with (fail); exact RelEnd.mk rfl (Below.refl _ _) rfl
    case refine_12 =>
      go_wp2_with (with_reducible refine stop_loadG 32 _ rfl ?_)
      refine Stop.mk (wpList_loadAtG (by simp [Region.wanted, yielded]) _ _ rfl w.heap.size 0 rfl (c.arr A n) ((BC.out.a.below hb2 BC.out.a.lt).all) strCm (Cmd.arr_size hc.out) ?_)
      go_wp2_with (fail); exact RelEnd.mk rfl (Below.refl _ _) rfl
    case refine_13 =>
      go_wp2_with (with_reducible refine stop_loadG 32 _ rfl ?_)
      refine Stop.mk (wpList_loadAtG (by simp [Region.wanted, yielded]) _ _ rfl (w.heap.size + 1) 0 rfl (o.arr O m) ((BC.out.b.below hb2 BC.out.b.lt).all) strCm (Cmd.arr_size ho.out) ?_)
      go_wp2_with (fail); exact RelEnd.mk rfl (Below.refl _ _) rfl
    case refine_14 =>
      go_wp2_with (go_at_call 13; refine (c_cmdwire_Same c o A O n m _ hc.out ho.out (HI.out.below hbw) (HO.out.below hbw)).mono ?_; rintro e3 W3 ⟨rfl, hb3⟩)
      exact RelEnd.mk rfl hb3 rfl
    case refine_15 =>
      go_wp2_with (with_reducible refine stop_loadG 32 _ rfl ?_)
      refine Stop.mk (wpList_loadAtG (by simp [Region.wanted, yielded]) _ _ rfl w.heap.size 0 rfl (c.arr A n) ((BC.out.a.below hb2 BC.out.a.lt).all) strCm (Cmd.arr_size hc.out) ?_)
      go_wp2_with (fail); exact RelEnd.mk rfl (Below.refl _ _) rfl
    case refine_16 =>
      go_wp2_with (with_reducible refine stop_loadG 32 _ rfl ?_)
      refine Stop.mk (wpList_loadAtG (by simp [Region.wanted, yielded]) _ _ rfl (w.heap.size + 1) 0 rfl (o.arr O m) ((BC.out.b.below hb2 BC.out.b.lt).all) strCm (Cmd.arr_size ho.out) ?_)
      go_wp2_with (fail); exact RelEnd.mk rfl (Below.refl _ _) rfl
    case refine_17 =>
      go_wp2_with (go_at_call 14; refine (c_ref33_Same c o A O n m _ hc.out ho.out (HI.out.below hbw) (HO.out.below hbw)).mono ?_; rintro e3 W3 ⟨rfl, hb3⟩)
      exact RelEnd.mk rfl hb3 rfl
    case refine_18 =>
      go_wp2_with (fail); exact RelEnd.mk rfl (Below.refl _ _) rfl
    case refine_19 =>
      go_wp2_with (fail); exact RelEnd.mk rfl (Below.refl _ _) rfl
    case refine_20 =>
      go_wp2_with (fail); exact RelEnd.mk rfl (Below.refl _ _) rfl
    case refine_21 =>
      go_wp2_with (with_reducible refine stop_loadG 32 _ rfl ?_)
      refine Stop.mk (wpList_loadAtG (by simp [Region.wanted, yielded]) _ _ rfl w.heap.size 0 rfl (c.arr A n) ((BC.out.a.below hb2 BC.out.a.lt).all) strCm (Cmd.arr_size hc.out) ?_)
      go_wp2_with (fail); exact RelEnd.mk rfl (Below.refl _ _) rfl
    case refine_22 =>
      go_wp2_with (with_reducible refine stop_loadG 32 _ rfl ?_)
      refine Stop.mk (wpList_loadAtG (by simp [Region.wanted, yielded]) _ _ rfl w.heap.size 0 rfl (c.arr A n) ((BC.out.a.below hb2 BC.out.a.lt).all) strCm (Cmd.arr_size hc.out) ?_)
      go_wp2_with (fail); exact RelEnd.mk rfl (Below.refl _ _) rfl
    case refine_23 =>
      go_wp2_with (go_at_call 13; refine (c_cmdwire_Same c c A A n n _ hc.out hc.out (HI.out.below hbw) (HI.out.below hbw)).mono ?_; rintro e3 W3 ⟨rfl, hb3⟩)
      exact RelEnd.mk rfl hb3 (by show _ = _; rw [← decide_eq_true (rfl : c = c)]; rfl)
    case refine_24 =>
      go_wp2_with (fail); exact RelEnd.mk rfl (Below.refl _ _) rfl
    case refine_25 =>
      go_wp2_with (fail); exact RelEnd.mk rfl (Below.refl _ _) rfl
    case refine_26 =>
      go_wp2_with (go_at_call 10; refine (c_law33_awake _ (HT.out.below hbw)).mono ?_; rintro e3 W3 ⟨rfl, hb3⟩)
      exact RelEnd.mk rfl hb3 rfl
    case refine_27 =>
      go_wp2_with (fail); exact RelEnd.mk rfl (Below.refl _ _) rfl
    case refine_28 =>
      go_wp2_with (fail); exact RelEnd.mk rfl (Below.refl _ _) rfl
  · intro u W2 hb2 hold
    simp only [RelHold, Sp.eq_holds, Sp.slice_holds, Nat.reduceAdd] at hold
    obtain ⟨-, -, -, -, -, -, -, -, -, -, -, -, -, -, -, -, -, -, -, -, -, -, -, -, -, -, -, hE, -⟩ := hold
    simp only [putAll, Act.put, Nat.reduceAdd, List.setIfInBounds_toArray, List.set_cons_zero, List.set_cons_succ]
    have dL := hE
    clear KB HB BC HT hE
    have hbw : Below w.heap.size w W2 := B0.out.below.trans (hb2.mono hz)
    clear B0 hb2
    rw [dL]
    go_wp2_with (fail)
    go_ret
    exact RetV.of rfl hbw
end Go.Proofs.YtjhndilflcigiaaDoor
