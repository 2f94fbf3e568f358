/-
  The walk of the statement CmdwireBack: it answers true, whatever the command and the bytes. (Printed by gen33m.py.)
-/
import Derived.Test.YtjhndilflcigiaaDoorQc37
import Derived.Test.YtjhndilflcigiaaDoorRows
import Derived.WalkKit
import Derived.WalkSpells
import Derived.WalkLawsBesides
import Derived.Lib.Hide
import Derived.Deep.QuietTactic
import Derived.BigQuiet
import Derived.Maps.AppendAt
import Derived.WalkSmall
import Derived.ProofKit
import Derived.OpenShut
import Derived.JoinedCond
import Derived.Deep.Slices
import Derived.Deep.Fields
import Derived.Carry
import Derived.Deep.AppendSrc
import Derived.Lib.AppendStr
import Derived.Laws.BytesArg
import Derived.Test.YtjhndilflcigiaaDoorProg
import Derived.Shelf.Spec.TrailingZeros
import Derived.RangeFuncNested
import Derived.RangeFuncBound
import Derived.RangeFuncCalls
import Derived.RangeFuncLeaves
import Derived.Shelf.Abstract
import Derived.Shelf.RegionOpen
import Derived.OwnWalkIn
import Derived.TacticsInMore
import Derived.LoopNIn
import Derived.LoopIn
import Derived.Test.YtjhndilflcigiaaDoorTie
import Derived.Lib.LaidTab
import Derived.LaidMore
import Derived.SevenTiedAt
import Derived.Test.YtjhndilflcigiaaDoorCards
import Derived.Laws.Tables
import Derived.Laws.Rows
import Derived.ChangeKeysEq
import Derived.Laws.StructEq
import Derived.Deep.CutBlock
import Derived.Deep.DeepCutAuto
import Derived.Laws.CopyOwn
import Derived.Outline
import Derived.IntWalk
import Derived.Lib.EndianBits
import Derived.StillTail
import Derived.Lib.AppendZeros
import Derived.Deep.Quiet
import Derived.Maps.Own
import Derived.WalkMore
namespace Go.Proofs.YtjhndilflcigiaaDoor
open Go.RowKit

theorem rdEdit_sizesN (st : Rd) : (rdEdit st).p.mask < 4294967296 ∧ ∀ x ∈ (rdEdit st).p.f, x.s.length ≤ 4294967000 := by
  unfold rdEdit; split
  · unfold edEdit edP
    show Patch.mask (if hasP (edK st) = true then rdPatch (edC st) else pz) < 4294967296 ∧ ∀ x ∈ Patch.f (if hasP (edK st) = true then rdPatch (edC st) else pz), x.s.length ≤ 4294967000
    split
    · exact ⟨by have := (rdPatch_mask (edC st)).1; omega, rdPatch_sizes _⟩
    · exact ⟨by decide, by decide⟩
  · exact ⟨by decide, by decide⟩
theorem rdPred_sizesN (st : Rd) : ∀ x ∈ rdPred st, x.v.s.length ≤ 4294967000 := by
  unfold rdPred; intro x hx; split at hx
  · have := rdNodes_texts _ _ x hx; omega
  · simp at hx
theorem i6N {st : Rd} {m : Int} (_hm : m ≤ 1099511627776) : I6 (rdN st m) := by
  have := rdN_bd st m
  unfold I6
  omega
/-- What is read as a command lies within the bounds of a command in memory. -/
theorem rdCmd_fit (st : Rd) : (rdCmd st).rng ∧ (∀ x ∈ (rdCmd st).f, x.v.s.length ≤ 4294967000) ∧ (∀ x ∈ (rdCmd st).e.p.f, x.s.length ≤ 4294967000) ∧ (∀ x ∈ (rdCmd st).p.f, x.s.length ≤ 4294967000) ∧ (rdCmd st).e.p.mask < 4294967296 ∧ (rdCmd st).p.mask < 4294967296 ∧ (rdCmd st).mask < 4294967296 := by
  have z6 : I6 0 := by unfold I6; omega
  have zs : ∀ x ∈ pz.f, x.s.length ≤ 4294967000 := by decide
  have zm : pz.mask < 4294967296 := by decide
  have hm := rdN_bd (cmF st) 511
  unfold rdCmd rdCmdRaw
  split
  · split
    · exact ⟨⟨z6, z6, z6, z6, z6⟩, by simp, (rdEdit_sizesN _).2, zs, (rdEdit_sizesN _).1, zm, by show (0 : Nat) < 4294967296; omega⟩
    · split
      · exact ⟨⟨z6, z6, z6, z6, i6N (by omega)⟩, by simp, zs, zs, zm, zm, by show (0 : Nat) < 4294967296; omega⟩
      · split
        · exact ⟨⟨i6N (by omega), i6N (by omega), i6N (by omega), i6N (by omega), z6⟩, by simp, zs, rdPatch_sizes _, zm, by have := (rdPatch_mask (cmE st)).1; show (rdPatch (cmE st)).mask < _; omega, by show (0 : Nat) < 4294967296; omega⟩
        · split
          · exact ⟨⟨i6N (by omega), i6N (by omega), z6, z6, z6⟩, rdPred_sizesN _, zs, zs, zm, zm, by show (rdN (cmF st) 511).toNat < _; omega⟩
          · exact ⟨⟨i6N (by omega), i6N (by omega), z6, z6, z6⟩, by simp, zs, zs, zm, zm, by show (0 : Nat) < 4294967296; omega⟩
  · exact ⟨⟨z6, z6, z6, z6, z6⟩, by simp, zs, zs, zm, zm, by show (0 : Nat) < 4294967296; omega⟩
theorem decC_put {c : Cmd} (h : c.ok = true) (hw : c.wf) : decC (cmdB c) = c ∧ decE (cmdB c) = 0 := by
  obtain ⟨h1, h2⟩ := rdCmd_put h hw.e hw.p []
  rw [List.append_nil] at h1 h2
  have h3 : decE (cmdB c) = 0 := by unfold decE; rw [h2]; rfl
  exact ⟨by unfold decC; rw [if_pos h3, h1], h3⟩
set_option maxHeartbeats 1000000 in
set_option maxRecDepth 4000 in
theorem law33_Back_long (c : Cmd) (A B : Option Addr) (n nb cb : Nat) (b1 : Bool) (w : World) (hT : Tab w) (hwc : c.wf) (k1 : ∀ w', Below w.heap.size w w' → Calls Tryd.prog 9 #[.agg (c.arr A n)] w' (RetV w' (.bool b1))) (h : b1 = true ∨ 1500 < nb) :
    Calls Tryd.prog 8 #[.agg (c.arr A n), .slice B nb cb] w (RetV w (.bool true)) := by
  have B0 := Lib.hid (At.new w 32 (c.arr A n))
  have hc := Lib.hid hwc
  have HK1 := Lib.hid k1
  have HT := Lib.hid hT
  clear hwc k1 hT
  cases b1
  case true =>
    clear h
    go_enter Tryd.func8, Tryd.ntmps8
    go_wp2_with (with_reducible refine stop_loadG 32 (.tmp 2) rfl ?_)
    refine Stop.mk (wpList_loadAtG (by rfl) _ _ rfl w.heap.size 0 rfl (c.arr A n) B0.out.2.all strCm (Cmd.arr_size hc.out) ?_)
    go_wp2_with (fail)
    refine (HK1.out _ B0.out.1).mono ?_
    rintro e1 w1 ⟨rfl, hb1⟩
    replace B0 := Lib.hid (B0.out.step hb1)
    clear hb1
    go_wp2_with (fail)
    refine (c_law33_awake _ (HT.out.below B0.out.1)).mono ?_
    rintro e2 w2 ⟨rfl, hb2⟩
    go_wp2_with (fail)
    go_ret
    exact RetV.bool rfl (B0.out.1.trans (hb2.mono B0.out.1.size))
  case false =>
    have h5 : 1500 < nb := by simpa using h
    clear h
    go_enter Tryd.func8, Tryd.ntmps8
    go_wp2_with (with_reducible refine stop_loadG 32 (.tmp 2) rfl ?_)
    refine Stop.mk (wpList_loadAtG (by rfl) _ _ rfl w.heap.size 0 rfl (c.arr A n) B0.out.2.all strCm (Cmd.arr_size hc.out) ?_)
    go_wp2_with (fail)
    refine (HK1.out _ B0.out.1).mono ?_
    rintro e1 w1 ⟨rfl, hb1⟩
    replace B0 := Lib.hid (B0.out.step hb1)
    clear hb1
    go_wp2_with (fail)
    refine (c_law33_awake _ (HT.out.below B0.out.1)).mono ?_
    rintro e2 w2 ⟨rfl, hb2⟩
    go_wp2_with (fail)
    go_ret
    exact RetV.bool rfl (B0.out.1.trans (hb2.mono B0.out.1.size))
set_option maxHeartbeats 8000000 in
set_option maxRecDepth 10000 in
theorem c_law33_CmdwireBack (c : Cmd) (more : List UInt8) (A B : Option Addr) (n cb : Nat) (w : World) (hT : Tab w) (hwc : c.wf) (k1 : ∀ w', Below w.heap.size w w' → Calls Tryd.prog 9 #[.agg (c.arr A n)] w' (RetV w' (.bool false)))
    (hr : c.rng) (hI : InN w A n c.f) (hs : ∀ x ∈ c.f, x.v.s.length ≤ 4294967000) (hse : ∀ x ∈ c.e.p.f, x.s.length ≤ 4294967000) (hsp : ∀ x ∈ c.p.f, x.s.length ≤ 4294967000) (hme : c.e.p.mask < 4294967296) (hmp : c.p.mask < 4294967296) (hm : c.mask < 4294967296)
    (hb : InB w B cb more) (hbl : more.length ≤ 1500) :
    Calls Tryd.prog 8 #[.agg (c.arr A n), .slice B more.length cb] w (RetV w (.bool true)) := by
  have hL := hb.1
  have hC := hb.2.1
  have B0 := Lib.hid (At.new w 32 (c.arr A n))
  have hc := Lib.hid hwc
  have HK1 := Lib.hid k1
  have HT := Lib.hid hT
  have HR := Lib.hid hr
  have HI := Lib.hid hI
  have Hs := Lib.hid hs
  have Hse := Lib.hid hse
  have Hsp := Lib.hid hsp
  have HB := Lib.hid hb
  obtain ⟨st, hst⟩ : ∃ st, st = rdCmd' ⟨more, 0⟩ := ⟨_, rfl⟩
  obtain ⟨X, hX⟩ : ∃ X, X = rdCmd ⟨more, 0⟩ := ⟨_, rfl⟩
  have hlen : st.s.length ≤ more.length := by rw [hst]; exact rdCmd'_len _
  have htook : st.e = 0 → X.ok = true ∧ more = cmdB X ++ st.s := fun h => by
    rw [hst] at h
    have := (rdCmd_took h).2
    rw [hX, hst]
    exact this
  have HTK := Lib.hid htook
  have HXW := Lib.hid (show X.wf by rw [hX]; exact rdCmd_wf _)
  have HXF := Lib.hid (rdCmd_fit ⟨more, 0⟩)
  rw [← hX] at HXF
  have hxl : X.f.length ≤ 31 := by rw [hX]; exact rdCmd_flen _
  have hpx := cmdB_len X
  have Hst := Lib.hid hst
  have HX := Lib.hid hX
  obtain ⟨m, hm0⟩ : ∃ n, n = more.length - st.s.length := ⟨_, rfl⟩
  have hnm : m ≤ more.length := by omega
  have hw : IntKind.i64.wrap ((more.length : Int) - (st.s.length : Int)) = (m : Int) := by rw [IntWalk.i64_in _ (by omega)]; omega
  have Hm := Lib.hid hm0
  clear hwc k1 hT hr hI hs hse hsp hb hst hX htook hm0
  go_enter Tryd.func8, Tryd.ntmps8
  go_wp2_with (with_reducible refine stop_loadG 32 (.tmp 2) rfl ?_)
  refine Stop.mk (wpList_loadAtG (by rfl) _ _ rfl w.heap.size 0 rfl (c.arr A n) B0.out.2.all strCm (Cmd.arr_size hc.out) ?_)
  go_wp2_with (fail)
  refine (HK1.out _ B0.out.1).mono ?_
  rintro e1 w1 ⟨rfl, hb1⟩
  replace B0 := Lib.hid (B0.out.step hb1)
  clear hb1
  go_wp2_with (fail)
  refine (c_octet_New more B cb _ (HB.out.below B0.out.1)).mono ?_
  rintro e w2 ⟨g, rfl, hg, hr2, hb2⟩
  have HG := Lib.hid (show w.heap.size < g by have := B0.out.lt; omega)
  replace B0 := Lib.hid (B0.out.step hb2)
  have HR0 := Lib.hid hr2
  clear hg hr2 hb2
  go_wp2_with (fail)
  refine (c_cmdwire_Read (some g) ⟨more, 0⟩ _ (HT.out.below B0.out.1) HR0.out).mono ?_
  rintro e w3 ⟨XA, xn, rfl, own3, hr3, hk3⟩
  rw [← HX.out] at own3 ⊢
  rw [← Hst.out] at hr3
  replace B0 := Lib.hid (B0.out.kept HG.out hk3)
  replace HR0 := Lib.hid hr3
  have IX := Lib.hid (In.ownN Node.cells_len own3 (by omega))
  clear own3 hr3 hk3
  go_wp2_with (with_reducible refine stop_store 32 (.tmp 6) (.tmp 24) rfl rfl ?_)
  refine Stop.mk (wpList_storeB rfl _ _ _ rfl w3.heap.size _ rfl rfl _ (Blk.new _ _ _) strCm (Cmd.arr_size HXW.out) (by rw [Cmd.arr_size HXW.out]; rfl) (Cmd.arr_ones HXW.out) ?_)
  intro w3s hb hk
  have hB := fresh_below hk
  obtain ⟨q, hq⟩ : ∃ q, q = w3.heap.size := ⟨_, rfl⟩
  rw [← hq] at hb ⊢
  have BX := Lib.hid hb
  clear hb hk hq
  replace B0 := Lib.hid (B0.out.step hB)
  replace HR0 := Lib.hid (HR0.out.below hB)
  replace IX := Lib.hid (IX.out.below hB)
  clear hB
  go_wp2_with (fail)
  refine (c_octet_Left' (some g) _ _ HR0.out).mono ?_
  rintro e w4 ⟨rfl, hB⟩
  replace B0 := Lib.hid (B0.out.step hB)
  replace HR0 := Lib.hid (HR0.out.below hB)
  replace IX := Lib.hid (IX.out.below hB)
  replace BX := Lib.hid (BX.out.below hB BX.out.lt)
  clear hB
  have hzz := B0.out.1.size
  have hn0 : decide ((m : Int) < 0) = false := by simp
  have hn1 : decide (more.length < m) = false := by simp; omega
  go_wp2_with (fail)
  by_cases he : st.e = 0
  · have heb : (st.e == 0) = true := by simpa using he
    obtain ⟨hcx, hmx⟩ := HTK.out he
    have hpn : more.take m = cmdB X := by
      rw [Hm.out]
      have : more.length - st.s.length = (cmdB X).length := by rw [hmx, List.length_append]; omega
      rw [this]; conv => lhs; rw [hmx]
      exact List.take_left
    have Hcx := Lib.hid hcx
    have Hpn := Lib.hid hpn
    clear hcx hmx hpn he
    refine wp_region_rel [Sp.eq (.int .i64 m), Sp.eq (.bool false), Sp.eq (.bool false), Sp.eq (.int .i64 m), Sp.eq (.slice B more.length cb), Sp.eq (.int .i64 more.length), Sp.eq (.bool false), Sp.eq (.bool false), Sp.eq (.bool false), Sp.eq ((ptr (some g))), Sp.eq (.int .i64 st.e), Sp.eq (.bool true), Sp.eq (.bool true), Sp.eq (.agg (X.arr XA xn)), Sp.eq (.bool true), Sp.eq (.bool false), Sp.eq (.bool false), Sp.eq (.agg (X.arr XA xn)), Sp.slice 1 bc (cmdB X), Sp.eq (.string (str (cmdB X))), Sp.eq (.slice B more.length cb), Sp.eq (.int .i64 m), Sp.eq (.slice B m cb), Sp.eq (.string (str (cmdB X))), Sp.eq (.bool false), Sp.eq (.bool false), Sp.eq (.bool false), Sp.eq (.bool false)] 104 (by kernel_rfl) (by kernel_rfl) rfl rfl ?_ ?_
    · refine ⟨?_, ?_, ?_, ?_, ?_, ?_, ?_, ?_, ?_, ?_, ?_, ?_, ?_, ?_, ?_, ?_, ?_, ?_, ?_, ?_, ?_, ?_, ?_, ?_, ?_, ?_, ?_, ?_, trivial⟩
      all_goals (intro u W2 hb2 hd; have hbw : Below w.heap.size w W2 := B0.out.1.trans (hb2.mono hzz); simp [Deps, Region.binds, Sp.slice_holds, Sp.eq_holds] at hd; simp only [putDeps, dstOf, Region.binds])
      case refine_1 =>
        go_wp2_with (fail); exact RelEnd.mk rfl (Below.refl _ _) rfl
      case refine_2 =>
        go_wp2_with (fail); exact RelEnd.mk rfl (Below.refl _ _) rfl
      case refine_3 =>
        go_wp2_with (fail); exact RelEnd.mk rfl (Below.refl _ _) rfl
      case refine_4 =>
        go_wp2_with (fail); exact RelEnd.mk rfl (Below.refl _ _) rfl
      case refine_5 =>
        go_wp2_with (fail); exact RelEnd.mk rfl (Below.refl _ _) rfl
      case refine_6 =>
        go_wp2_with (fail); exact RelEnd.mk rfl (Below.refl _ _) rfl
      case refine_7 =>
        go_wp2_with (fail); exact RelEnd.mk rfl (Below.refl _ _) rfl
      case refine_8 =>
        go_wp2_with (fail); exact RelEnd.mk rfl (Below.refl _ _) rfl
      case refine_9 =>
        go_wp2_with (fail); exact RelEnd.mk rfl (Below.refl _ _) rfl
      case refine_10 =>
        go_wp2_with (fail); exact RelEnd.mk rfl (Below.refl _ _) rfl
      case refine_11 =>
        go_wp2_with (go_at_call 19; refine (c_octet_Err' (some g) _ _ (HR0.out.below hb2)).mono ?_; rintro e3 W3 ⟨rfl, hb3⟩)
        exact RelEnd.mk rfl hb3 rfl
      case refine_12 =>
        go_wp2_with (fail); exact RelEnd.mk rfl (Below.refl _ _) rfl
      case refine_13 =>
        go_wp2_with (fail); exact RelEnd.mk rfl (Below.refl _ _) rfl
      case refine_14 =>
        go_wp2_with (with_reducible refine stop_loadG 32 _ rfl ?_)
        refine Stop.mk (wpList_loadAtG (by simp [Region.wanted, yielded]) _ _ rfl q 0 rfl (X.arr XA xn) ((BX.out.below hb2 BX.out.lt).all) strCm (Cmd.arr_size HXW.out) ?_)
        go_wp2_with (fail); exact RelEnd.mk rfl (Below.refl _ _) rfl
      case refine_15 =>
        go_wp2_with (go_at_call 32; refine (c_ref32_Check X XA xn _ HXW.out HXF.out.1 (IX.out.below hb2) HXF.out.2.1 HXF.out.2.2.1 HXF.out.2.2.2.1 HXF.out.2.2.2.2.1 HXF.out.2.2.2.2.2.1 HXF.out.2.2.2.2.2.2).mono ?_; rintro e3 W3 ⟨rfl, hb3⟩; rw [Hcx.out])
        exact RelEnd.mk rfl hb3 rfl
      case refine_16 =>
        go_wp2_with (fail); exact RelEnd.mk rfl (Below.refl _ _) rfl
      case refine_17 =>
        go_wp2_with (fail); exact RelEnd.mk rfl (Below.refl _ _) rfl
      case refine_18 =>
        go_wp2_with (with_reducible refine stop_loadG 32 _ rfl ?_)
        refine Stop.mk (wpList_loadAtG (by simp [Region.wanted, yielded]) _ _ rfl q 0 rfl (X.arr XA xn) ((BX.out.below hb2 BX.out.lt).all) strCm (Cmd.arr_size HXW.out) ?_)
        go_wp2_with (fail); exact RelEnd.mk rfl (Below.refl _ _) rfl
      case refine_19 =>
        go_wp2_with (go_at_call 11; refine (c_cmdwire_Put [] none 0 X XA xn _ (In.nil (by omega)) (by simp) (HT.out.below hbw) HXW.out HXF.out.1 (IX.out.below hb2) HXF.out.2.1 HXF.out.2.2.1 HXF.out.2.2.2.1 HXF.out.2.2.2.2.1 HXF.out.2.2.2.2.2.1 HXF.out.2.2.2.2.2.2).mono ?_; rintro e3 W3 ⟨v3, rfl, own3, hb3⟩; rw [List.nil_append] at own3)
        exact RelEnd.mk rfl hb3 (In.of_own bc_len own3 (by omega))
      case refine_20 =>
        have hx : (Sp.slice 1 bc (cmdB X)).holds (u 18) W2 := by first | exact hd | exact hd.1 | exact hd.2 | exact hd.2.1 | exact hd.2.2 | exact hd.1.1 | exact hd.1.2 | exact hd.2.2.1 | exact hd.2.2.2
        obtain ⟨A4, c4, d0, d1⟩ := hx
        have kc' : (convert 33 9 (u 18)).run Tryd.prog W2 = .ok (.string (str (cmdB X))) W2 := by rw [d0]; exact conv_str (P := Tryd.prog) W2 Tryd.underlying33 Tryd.underlying5 Tryd.underlying9 d1
        clear d0 d1
        go_wp2_with (fail); exact RelEnd.mk rfl (Below.refl _ _) rfl
      case refine_21 =>
        go_wp2_with (fail); exact RelEnd.mk rfl (Below.refl _ _) rfl
      case refine_22 =>
        go_wp2_with (fail); exact RelEnd.mk rfl (Below.refl _ _) rfl
      case refine_23 =>
        have kc := head_runN B cb more.length m hnm hL W2
        go_wp2_with (fail); exact RelEnd.mk rfl (Below.refl _ _) rfl
      case refine_24 =>
        have kc := conv_str (P := Tryd.prog) W2 Tryd.underlying33 Tryd.underlying5 Tryd.underlying9 ((HB.out.below hbw).takeN hnm)
        rw [show (more.take m).length = m by rw [List.length_take]; omega, Hpn.out] at kc
        go_wp2_with (fail); exact RelEnd.mk rfl (Below.refl _ _) rfl
      case refine_25 =>
        go_wp2_with (fail); exact RelEnd.mk rfl (Below.refl _ _) rfl
      case refine_26 =>
        go_wp2_with (fail); exact RelEnd.mk rfl (Below.refl _ _) rfl
      case refine_27 =>
        go_wp2_with (fail); exact RelEnd.mk rfl (Below.refl _ _) rfl
      case refine_28 =>
        go_wp2_with (fail); exact RelEnd.mk rfl (Below.refl _ _) rfl
    · intro u W2 hb2 hold
      simp only [RelHold, Sp.eq_holds, Sp.slice_holds, Nat.reduceAdd] at hold
      obtain ⟨-, -, -, -, -, -, -, -, -, -, -, -, -, -, -, -, -, -, -, -, -, -, -, -, -, -, -, hE, -⟩ := hold
      simp only [putAll, Act.put, Nat.reduceAdd, List.setIfInBounds_toArray, List.set_cons_zero, List.set_cons_succ]
      have dL := hE
      rw [dL]
      clear dL
      replace B0 := Lib.hid (B0.out.step hb2)
      clear hE hb2 hzz BX IX HR0
      cases hok : c.ok
      case false =>
        have HOK := Lib.hid hok
        clear hok
        go_wp2_with (with_reducible refine stop_load 32 (.tmp 2) rfl rfl ?_)
        refine Stop.mk (wpList_loadB rfl _ _ rfl w.heap.size rfl _ B0.out.2 strCm (Cmd.arr_size hc.out) ?_)
        go_wp2_with (fail)
        refine (c_ref32_Check c A n _ hc.out HR.out (HI.out.below B0.out.1) Hs.out Hse.out Hsp.out hme hmp hm).mono ?_
        rintro e8 w8 ⟨rfl, hb8⟩
        rw [HOK.out]
        replace B0 := Lib.hid (B0.out.step hb8)
        clear hb8
        go_wp2_with (fail)
        refine (c_law33_awake _ (HT.out.below B0.out.1)).mono ?_
        rintro e2 w2 ⟨rfl, hb2⟩
        go_wp2_with (fail)
        go_ret
        exact RetV.bool rfl (B0.out.1.trans (hb2.mono B0.out.1.size))
      case true =>
        obtain ⟨hp1, hp2⟩ := rdCmd_put hok hc.out.e hc.out.p more
        obtain ⟨hp3, hp4⟩ := decC_put hok hc.out
        have hpl := cmdB_len c
        have HP1 := Lib.hid hp1
        have HP2 := Lib.hid hp2
        have HP3 := Lib.hid hp3
        have HP4 := Lib.hid hp4
        have HOK := Lib.hid hok
        clear hok hp1 hp2 hp3 hp4
        go_wp2_with (with_reducible refine stop_load 32 (.tmp 2) rfl rfl ?_)
        refine Stop.mk (wpList_loadB rfl _ _ rfl w.heap.size rfl _ B0.out.2 strCm (Cmd.arr_size hc.out) ?_)
        go_wp2_with (fail)
        refine (c_ref32_Check c A n _ hc.out HR.out (HI.out.below B0.out.1) Hs.out Hse.out Hsp.out hme hmp hm).mono ?_
        rintro e8 w8 ⟨rfl, hb8⟩
        rw [HOK.out]
        replace B0 := Lib.hid (B0.out.step hb8)
        clear hb8
        go_wp2_with (with_reducible refine stop_load 32 (.tmp 2) rfl rfl ?_)
        refine Stop.mk (wpList_loadB rfl _ _ rfl w.heap.size rfl _ B0.out.2 strCm (Cmd.arr_size hc.out) ?_)
        go_wp2_with (fail)
        refine (c_cmdwire_Put [] none 0 c A n _ (In.nil (by omega)) (by simp) (HT.out.below B0.out.1) hc.out HR.out (HI.out.below B0.out.1) Hs.out Hse.out Hsp.out hme hmp hm).mono ?_
        rintro e9 w9 ⟨v9, rfl, own9, hb9⟩
        rw [List.nil_append] at own9
        replace B0 := Lib.hid (B0.out.step hb9)
        clear hb9
        obtain ⟨lc, hlc⟩ : ∃ l, l = cmdB c := ⟨_, rfl⟩
        have lcn : lc.length ≤ 2000 := by rw [hlc]; exact hpl
        rw [← hlc] at own9
        have HLC := Lib.hid hlc
        clear hlc hpl
        obtain ⟨A9, c9, rfl, in9⟩ := In.of_own bc_len own9 (by omega)
        have In9 := Lib.hid in9
        clear own9 in9
        have hz9 := B0.out.1.size
        go_wp2_with ((at_builtin; refine Stop.out ?_))
        refine Stop.mk (wpList_app _ rfl (.tmp 64) (.tmp 65) elemB rfl w9.heap.size (.slice (some ⟨w9.heap.size, 0, none⟩) 0 0) 0 [] rfl (World.ownsRow_lit w9 #[] 0 (Nat.le_refl _) (by unfold maxLen; omega) (by simp)) A9 lc.length c9 (lc.flatMap bc) rfl (Src.of_in bc_len (by omega) (In9.out.alloc _)) (bc_one _) (by omega) (by simp only [World.size_alloc]; omega) ?_)
        intro v10 w10 own10 _ hb10 _
        rw [Nat.zero_add, List.nil_append] at own10
        have hB10 : Below w9.heap.size w9 w10 := Below.trans (b := w9.alloc (.cells #[] 5)) (by repeat (first | exact Below.refl _ _ | refine Below.drew ?_ | refine Below.alloc ?_ (by first | omega | (simp; done) | (simp; omega)) _ | refine Below.setCell ?_ (by first | omega | (simp; done) | (simp; omega)) _ | refine Below.trans ?_ (Below.mono (by assumption) (by first | omega | (simp; done) | (simp; omega))))) hb10
        have Own10 := Lib.hid own10
        have hz10 := hB10.size
        clear own10 hb10
        go_wp2_with ((at_builtin; refine Stop.out ?_))
        refine Stop.mk (wpList_app _ rfl (.tmp 66) (.tmp 67) elemB rfl w9.heap.size v10 lc.length (lc.flatMap bc) rfl Own10.out B more.length cb (more.flatMap bc) rfl (Src.of_in bc_len (by omega) (HB.out.below (B0.out.1.trans (hB10.mono hz9)))) (bc_one _) (by omega) hz10 ?_)
        intro v11 w11 own11 _ hb11 _
        obtain ⟨lw, hlw⟩ : ∃ l, l = lc ++ more := ⟨_, rfl⟩
        rw [← List.length_append, ← List.flatMap_append, ← hlw] at own11
        have lwn : lw.length ≤ 4000 := by rw [hlw, List.length_append]; omega
        have LW1 := Lib.hid hlw
        have hB11 := hB10.trans hb11
        replace B0 := Lib.hid (B0.out.step hB11)
        replace In9 := Lib.hid (In9.out.below hB11)
        obtain ⟨A11, c11, rfl, in11⟩ := In.of_own bc_len own11 (by omega)
        have In11 := Lib.hid in11
        clear own11 in11 hb11 hB10 hB11 hz9 hz10 hlw Own10
        have hzw := B0.out.lt
        go_wp2_with (fail)
        refine (c_octet_New lw A11 c11 _ In11.out).mono ?_
        rintro e w12 ⟨g2, rfl, hg2, hr12, hb12⟩
        have HG2 := Lib.hid (show w11.heap.size ≤ g2 ∧ w.heap.size < g2 from ⟨hg2, by omega⟩)
        replace B0 := Lib.hid (B0.out.step hb12)
        have BL := Lib.hid hb12
        have HR := Lib.hid hr12
        clear hg2 hr12 hb12 hzw In11
        go_wp2_with (fail)
        refine (c_cmdwire_Read (some g2) ⟨lw, 0⟩ _ (HT.out.below B0.out.1) HR.out).mono ?_
        rintro e w13 ⟨A13, n13, rfl, own13, hr13, hk13⟩
        rw [show rdCmd ⟨lw, 0⟩ = c by rw [LW1.out, HLC.out, HP1.out]] at own13 ⊢
        rw [show rdCmd' ⟨lw, 0⟩ = ⟨more, 0⟩ by rw [LW1.out, HLC.out, HP2.out]] at hr13
        replace B0 := Lib.hid (B0.out.kept HG2.out.2 hk13)
        replace BL := Lib.hid (BL.out.trans (hk13.oneB BL.out.size HG2.out.1))
        replace HR := Lib.hid hr13
        have I13 := Lib.hid (In.ownN Node.cells_len own13 (by have := HI.out.2.2.1; omega))
        have hz13 := BL.out.size
        clear own13 hr13 hk13
        go_wp2_with (with_reducible refine stop_store 32 (.tmp 10) (.tmp 71) rfl rfl ?_)
        refine Stop.mk (wpList_storeB rfl _ _ _ rfl w13.heap.size _ rfl rfl _ (Blk.new _ _ _) strCm (Cmd.arr_size hc.out) (by rw [Cmd.arr_size hc.out]; rfl) (Cmd.arr_ones hc.out) ?_)
        intro w13s hb hk
        have hB := fresh_below hk
        obtain ⟨q, hq⟩ : ∃ q, q = w13.heap.size := ⟨_, rfl⟩
        rw [← hq] at hb ⊢
        have Bq := Lib.hid hb
        clear hb hk hq
        replace B0 := Lib.hid (B0.out.step hB)
        replace BL := Lib.hid (BL.out.trans (hB.mono hz13))
        replace HR := Lib.hid (HR.out.below hB)
        replace I13 := Lib.hid (I13.out.below hB)
        clear hB hz13
        have hz14 := BL.out.size
        go_wp2_with (fail)
        refine (c_cmdwire_Decode lc A9 c9 _ (HT.out.below B0.out.1) (In9.out.below BL.out)).mono ?_
        rintro e w15 ⟨A15, n15, rfl, own15, hb15⟩
        rw [show decC lc = c by rw [HLC.out, HP3.out]] at own15 ⊢
        rw [show decE lc = 0 by rw [HLC.out, HP4.out]]
        have I15 := Lib.hid (In.ownN Node.cells_len own15 (by have := HI.out.2.2.1; omega))
        replace B0 := Lib.hid (B0.out.step hb15)
        replace HR := Lib.hid (HR.out.below hb15)
        replace I13 := Lib.hid (I13.out.below hb15)
        replace Bq := Lib.hid (Bq.out.below hb15 Bq.out.lt)
        clear own15 hb15 hz14 BL In9
        go_wp2_with (with_reducible refine stop_store 32 (.tmp 11) (.tmp 75) rfl rfl ?_)
        refine Stop.mk (wpList_storeB rfl _ _ _ rfl w15.heap.size _ rfl rfl _ (Blk.new _ _ _) strCm (Cmd.arr_size hc.out) (by rw [Cmd.arr_size hc.out]; rfl) (Cmd.arr_ones hc.out) ?_)
        intro w15s hb hk
        have hB := fresh_below hk
        obtain ⟨r, hq⟩ : ∃ q, q = w15.heap.size := ⟨_, rfl⟩
        rw [← hq] at hb ⊢
        have Br := Lib.hid hb
        clear hb hk hq
        replace B0 := Lib.hid (B0.out.step hB)
        replace HR := Lib.hid (HR.out.below hB)
        replace I13 := Lib.hid (I13.out.below hB)
        replace I15 := Lib.hid (I15.out.below hB)
        replace Bq := Lib.hid (Bq.out.below hB Bq.out.lt)
        clear hB
        go_wp2_with (fail)
        refine (c_octet_Err' (some g2) _ _ HR.out).mono ?_
        rintro e w17 ⟨rfl, hB⟩
        replace B0 := Lib.hid (B0.out.step hB)
        replace HR := Lib.hid (HR.out.below hB)
        replace I13 := Lib.hid (I13.out.below hB)
        replace I15 := Lib.hid (I15.out.below hB)
        replace Bq := Lib.hid (Bq.out.below hB Bq.out.lt)
        replace Br := Lib.hid (Br.out.below hB Br.out.lt)
        clear hB
        go_wp2_with (with_reducible refine stop_loadG 32 (.tmp 10) rfl ?_)
        refine Stop.mk (wpList_loadAtG (by rfl) _ _ rfl q 0 rfl (c.arr A13 n13) Bq.out.all strCm (Cmd.arr_size hc.out) ?_)
        go_wp2_with (with_reducible refine stop_loadG 32 (.tmp 2) rfl ?_)
        refine Stop.mk (wpList_loadAtG (by rfl) _ _ rfl w.heap.size 0 rfl (c.arr A n) B0.out.2.all strCm (Cmd.arr_size hc.out) ?_)
        go_wp2_with (fail)
        refine (c_ref33_Same c c A13 A n13 n _ hc.out hc.out I13.out (HI.out.below B0.out.1)).mono ?_
        rintro e w18 ⟨rfl, hB⟩
        rw [decide_eq_true (rfl : c = c)]
        replace B0 := Lib.hid (B0.out.step hB)
        replace HR := Lib.hid (HR.out.below hB)
        replace I15 := Lib.hid (I15.out.below hB)
        replace Br := Lib.hid (Br.out.below hB Br.out.lt)
        clear hB I13 Bq
        go_wp2_with (fail)
        refine (c_octet_Left' (some g2) _ _ HR.out).mono ?_
        rintro e w19 ⟨rfl, hB⟩
        replace B0 := Lib.hid (B0.out.step hB)
        replace I15 := Lib.hid (I15.out.below hB)
        replace Br := Lib.hid (Br.out.below hB Br.out.lt)
        clear hB HR
        go_wp2_with (with_reducible refine stop_loadG 32 (.tmp 11) rfl ?_)
        refine Stop.mk (wpList_loadAtG (by rfl) _ _ rfl r 0 rfl (c.arr A15 n15) Br.out.all strCm (Cmd.arr_size hc.out) ?_)
        go_wp2_with (with_reducible refine stop_loadG 32 (.tmp 2) rfl ?_)
        refine Stop.mk (wpList_loadAtG (by rfl) _ _ rfl w.heap.size 0 rfl (c.arr A n) B0.out.2.all strCm (Cmd.arr_size hc.out) ?_)
        go_wp2_with (fail)
        refine (c_ref33_Same c c A15 A n15 n _ hc.out hc.out I15.out (HI.out.below B0.out.1)).mono ?_
        rintro e w20 ⟨rfl, hB⟩
        rw [decide_eq_true (rfl : c = c)]
        replace B0 := Lib.hid (B0.out.step hB)
        clear hB I15 Br
        go_wp2_with (fail)
        refine (c_law33_awake _ (HT.out.below B0.out.1)).mono ?_
        rintro e2 w2 ⟨rfl, hb2⟩
        go_wp2_with (fail)
        go_ret
        exact RetV.bool rfl (B0.out.1.trans (hb2.mono B0.out.1.size))
  · have heb : (st.e == 0) = false := by simpa using he
    clear he
    refine wp_region_rel [Sp.eq (.int .i64 m), Sp.eq (.bool false), Sp.eq (.bool false), Sp.eq (.int .i64 m), Sp.eq (.slice B more.length cb), Sp.eq (.int .i64 more.length), Sp.eq (.bool false), Sp.eq (.bool false), Sp.eq (.bool false), Sp.eq ((ptr (some g))), Sp.eq (.int .i64 st.e), Sp.eq (.bool false), Sp.eq (.bool false), Sp.eq (.tuple #[]), Sp.eq (.tuple #[]), Sp.eq (.tuple #[]), Sp.eq (.tuple #[]), Sp.eq (.tuple #[]), Sp.eq (.tuple #[]), Sp.eq (.tuple #[]), Sp.eq (.tuple #[]), Sp.eq (.tuple #[]), Sp.eq (.tuple #[]), Sp.eq (.tuple #[]), Sp.eq (.tuple #[]), Sp.eq (.tuple #[]), Sp.eq (.bool false), Sp.eq (.bool false)] 104 (by kernel_rfl) (by kernel_rfl) rfl rfl ?_ ?_
    · refine ⟨?_, ?_, ?_, ?_, ?_, ?_, ?_, ?_, ?_, ?_, ?_, ?_, ?_, ?_, ?_, ?_, ?_, ?_, ?_, ?_, ?_, ?_, ?_, ?_, ?_, ?_, ?_, ?_, trivial⟩
      all_goals (intro u W2 hb2 hd; have hbw : Below w.heap.size w W2 := B0.out.1.trans (hb2.mono hzz); simp [Deps, Region.binds, Sp.eq_holds] at hd; simp only [putDeps, dstOf, Region.binds])
      case refine_1 =>
        go_wp2_with (fail); exact RelEnd.mk rfl (Below.refl _ _) rfl
      case refine_2 =>
        go_wp2_with (fail); exact RelEnd.mk rfl (Below.refl _ _) rfl
      case refine_3 =>
        go_wp2_with (fail); exact RelEnd.mk rfl (Below.refl _ _) rfl
      case refine_4 =>
        go_wp2_with (fail); exact RelEnd.mk rfl (Below.refl _ _) rfl
      case refine_5 =>
        go_wp2_with (fail); exact RelEnd.mk rfl (Below.refl _ _) rfl
      case refine_6 =>
        go_wp2_with (fail); exact RelEnd.mk rfl (Below.refl _ _) rfl
      case refine_7 =>
        go_wp2_with (fail); exact RelEnd.mk rfl (Below.refl _ _) rfl
      case refine_8 =>
        go_wp2_with (fail); exact RelEnd.mk rfl (Below.refl _ _) rfl
      case refine_9 =>
        go_wp2_with (fail); exact RelEnd.mk rfl (Below.refl _ _) rfl
      case refine_10 =>
        go_wp2_with (fail); exact RelEnd.mk rfl (Below.refl _ _) rfl
      case refine_11 =>
        go_wp2_with (go_at_call 19; refine (c_octet_Err' (some g) _ _ (HR0.out.below hb2)).mono ?_; rintro e3 W3 ⟨rfl, hb3⟩)
        exact RelEnd.mk rfl hb3 rfl
      case refine_12 =>
        go_wp2_with (fail); exact RelEnd.mk rfl (Below.refl _ _) rfl
      case refine_13 =>
        go_wp2_with (fail); exact RelEnd.mk rfl (Below.refl _ _) rfl
      case refine_14 =>
        go_wp2_with (fail); exact RelEnd.mk rfl (Below.refl _ _) rfl
      case refine_15 =>
        go_wp2_with (fail); exact RelEnd.mk rfl (Below.refl _ _) rfl
      case refine_16 =>
        go_wp2_with (fail); exact RelEnd.mk rfl (Below.refl _ _) rfl
      case refine_17 =>
        go_wp2_with (fail); exact RelEnd.mk rfl (Below.refl _ _) rfl
      case refine_18 =>
        go_wp2_with (fail); exact RelEnd.mk rfl (Below.refl _ _) rfl
      case refine_19 =>
        go_wp2_with (fail); exact RelEnd.mk rfl (Below.refl _ _) rfl
      case refine_20 =>
        go_wp2_with (fail); exact RelEnd.mk rfl (Below.refl _ _) rfl
      case refine_21 =>
        go_wp2_with (fail); exact RelEnd.mk rfl (Below.refl _ _) rfl
      case refine_22 =>
        go_wp2_with (fail); exact RelEnd.mk rfl (Below.refl _ _) rfl
      case refine_23 =>
        go_wp2_with (fail); exact RelEnd.mk rfl (Below.refl _ _) rfl
      case refine_24 =>
        go_wp2_with (fail); exact RelEnd.mk rfl (Below.refl _ _) rfl
      case refine_25 =>
        go_wp2_with (fail); exact RelEnd.mk rfl (Below.refl _ _) rfl
      case refine_26 =>
        go_wp2_with (fail); exact RelEnd.mk rfl (Below.refl _ _) rfl
      case refine_27 =>
        go_wp2_with (fail); exact RelEnd.mk rfl (Below.refl _ _) rfl
      case refine_28 =>
        go_wp2_with (fail); exact RelEnd.mk rfl (Below.refl _ _) rfl
    · intro u W2 hb2 hold
      simp only [RelHold, Sp.eq_holds, Nat.reduceAdd] at hold
      obtain ⟨-, -, -, -, -, -, -, -, -, -, -, -, -, -, -, -, -, -, -, -, -, -, -, -, -, -, -, hE, -⟩ := hold
      simp only [putAll, Act.put, Nat.reduceAdd, List.setIfInBounds_toArray, List.set_cons_zero, List.set_cons_succ]
      have dL := hE
      rw [dL]
      clear dL
      replace B0 := Lib.hid (B0.out.step hb2)
      clear hE hb2 hzz BX IX HR0
      cases hok : c.ok
      case false =>
        have HOK := Lib.hid hok
        clear hok
        go_wp2_with (with_reducible refine stop_load 32 (.tmp 2) rfl rfl ?_)
        refine Stop.mk (wpList_loadB rfl _ _ rfl w.heap.size rfl _ B0.out.2 strCm (Cmd.arr_size hc.out) ?_)
        go_wp2_with (fail)
        refine (c_ref32_Check c A n _ hc.out HR.out (HI.out.below B0.out.1) Hs.out Hse.out Hsp.out hme hmp hm).mono ?_
        rintro e8 w8 ⟨rfl, hb8⟩
        rw [HOK.out]
        replace B0 := Lib.hid (B0.out.step hb8)
        clear hb8
        go_wp2_with (fail)
        refine (c_law33_awake _ (HT.out.below B0.out.1)).mono ?_
        rintro e2 w2 ⟨rfl, hb2⟩
        go_wp2_with (fail)
        go_ret
        exact RetV.bool rfl (B0.out.1.trans (hb2.mono B0.out.1.size))
      case true =>
        obtain ⟨hp1, hp2⟩ := rdCmd_put hok hc.out.e hc.out.p more
        obtain ⟨hp3, hp4⟩ := decC_put hok hc.out
        have hpl := cmdB_len c
        have HP1 := Lib.hid hp1
        have HP2 := Lib.hid hp2
        have HP3 := Lib.hid hp3
        have HP4 := Lib.hid hp4
        have HOK := Lib.hid hok
        clear hok hp1 hp2 hp3 hp4
        go_wp2_with (with_reducible refine stop_load 32 (.tmp 2) rfl rfl ?_)
        refine Stop.mk (wpList_loadB rfl _ _ rfl w.heap.size rfl _ B0.out.2 strCm (Cmd.arr_size hc.out) ?_)
        go_wp2_with (fail)
        refine (c_ref32_Check c A n _ hc.out HR.out (HI.out.below B0.out.1) Hs.out Hse.out Hsp.out hme hmp hm).mono ?_
        rintro e8 w8 ⟨rfl, hb8⟩
        rw [HOK.out]
        replace B0 := Lib.hid (B0.out.step hb8)
        clear hb8
        go_wp2_with (with_reducible refine stop_load 32 (.tmp 2) rfl rfl ?_)
        refine Stop.mk (wpList_loadB rfl _ _ rfl w.heap.size rfl _ B0.out.2 strCm (Cmd.arr_size hc.out) ?_)
        go_wp2_with (fail)
        refine (c_cmdwire_Put [] none 0 c A n _ (In.nil (by omega)) (by simp) (HT.out.below B0.out.1) hc.out HR.out (HI.out.below B0.out.1) Hs.out Hse.out Hsp.out hme hmp hm).mono ?_
        rintro e9 w9 ⟨v9, rfl, own9, hb9⟩
        rw [List.nil_append] at own9
        replace B0 := Lib.hid (B0.out.step hb9)
        clear hb9
        obtain ⟨lc, hlc⟩ : ∃ l, l = cmdB c := ⟨_, rfl⟩
        have lcn : lc.length ≤ 2000 := by rw [hlc]; exact hpl
        rw [← hlc] at own9
        have HLC := Lib.hid hlc
        clear hlc hpl
        obtain ⟨A9, c9, rfl, in9⟩ := In.of_own bc_len own9 (by omega)
        have In9 := Lib.hid in9
        clear own9 in9
        have hz9 := B0.out.1.size
        go_wp2_with ((at_builtin; refine Stop.out ?_))
        refine Stop.mk (wpList_app _ rfl (.tmp 64) (.tmp 65) elemB rfl w9.heap.size (.slice (some ⟨w9.heap.size, 0, none⟩) 0 0) 0 [] rfl (World.ownsRow_lit w9 #[] 0 (Nat.le_refl _) (by unfold maxLen; omega) (by simp)) A9 lc.length c9 (lc.flatMap bc) rfl (Src.of_in bc_len (by omega) (In9.out.alloc _)) (bc_one _) (by omega) (by simp only [World.size_alloc]; omega) ?_)
        intro v10 w10 own10 _ hb10 _
        rw [Nat.zero_add, List.nil_append] at own10
        have hB10 : Below w9.heap.size w9 w10 := Below.trans (b := w9.alloc (.cells #[] 5)) (by repeat (first | exact Below.refl _ _ | refine Below.drew ?_ | refine Below.alloc ?_ (by first | omega | (simp; done) | (simp; omega)) _ | refine Below.setCell ?_ (by first | omega | (simp; done) | (simp; omega)) _ | refine Below.trans ?_ (Below.mono (by assumption) (by first | omega | (simp; done) | (simp; omega))))) hb10
        have Own10 := Lib.hid own10
        have hz10 := hB10.size
        clear own10 hb10
        go_wp2_with ((at_builtin; refine Stop.out ?_))
        refine Stop.mk (wpList_app _ rfl (.tmp 66) (.tmp 67) elemB rfl w9.heap.size v10 lc.length (lc.flatMap bc) rfl Own10.out B more.length cb (more.flatMap bc) rfl (Src.of_in bc_len (by omega) (HB.out.below (B0.out.1.trans (hB10.mono hz9)))) (bc_one _) (by omega) hz10 ?_)
        intro v11 w11 own11 _ hb11 _
        obtain ⟨lw, hlw⟩ : ∃ l, l = lc ++ more := ⟨_, rfl⟩
        rw [← List.length_append, ← List.flatMap_append, ← hlw] at own11
        have lwn : lw.length ≤ 4000 := by rw [hlw, List.length_append]; omega
        have LW1 := Lib.hid hlw
        have hB11 := hB10.trans hb11
        replace B0 := Lib.hid (B0.out.step hB11)
        replace In9 := Lib.hid (In9.out.below hB11)
        obtain ⟨A11, c11, rfl, in11⟩ := In.of_own bc_len own11 (by omega)
        have In11 := Lib.hid in11
        clear own11 in11 hb11 hB10 hB11 hz9 hz10 hlw Own10
        have hzw := B0.out.lt
        go_wp2_with (fail)
        refine (c_octet_New lw A11 c11 _ In11.out).mono ?_
        rintro e w12 ⟨g2, rfl, hg2, hr12, hb12⟩
        have HG2 := Lib.hid (show w11.heap.size ≤ g2 ∧ w.heap.size < g2 from ⟨hg2, by omega⟩)
        replace B0 := Lib.hid (B0.out.step hb12)
        have BL := Lib.hid hb12
        have HR := Lib.hid hr12
        clear hg2 hr12 hb12 hzw In11
        go_wp2_with (fail)
        refine (c_cmdwire_Read (some g2) ⟨lw, 0⟩ _ (HT.out.below B0.out.1) HR.out).mono ?_
        rintro e w13 ⟨A13, n13, rfl, own13, hr13, hk13⟩
        rw [show rdCmd ⟨lw, 0⟩ = c by rw [LW1.out, HLC.out, HP1.out]] at own13 ⊢
        rw [show rdCmd' ⟨lw, 0⟩ = ⟨more, 0⟩ by rw [LW1.out, HLC.out, HP2.out]] at hr13
        replace B0 := Lib.hid (B0.out.kept HG2.out.2 hk13)
        replace BL := Lib.hid (BL.out.trans (hk13.oneB BL.out.size HG2.out.1))
        replace HR := Lib.hid hr13
        have I13 := Lib.hid (In.ownN Node.cells_len own13 (by have := HI.out.2.2.1; omega))
        have hz13 := BL.out.size
        clear own13 hr13 hk13
        go_wp2_with (with_reducible refine stop_store 32 (.tmp 10) (.tmp 71) rfl rfl ?_)
        refine Stop.mk (wpList_storeB rfl _ _ _ rfl w13.heap.size _ rfl rfl _ (Blk.new _ _ _) strCm (Cmd.arr_size hc.out) (by rw [Cmd.arr_size hc.out]; rfl) (Cmd.arr_ones hc.out) ?_)
        intro w13s hb hk
        have hB := fresh_below hk
        obtain ⟨q, hq⟩ : ∃ q, q = w13.heap.size := ⟨_, rfl⟩
        rw [← hq] at hb ⊢
        have Bq := Lib.hid hb
        clear hb hk hq
        replace B0 := Lib.hid (B0.out.step hB)
        replace BL := Lib.hid (BL.out.trans (hB.mono hz13))
        replace HR := Lib.hid (HR.out.below hB)
        replace I13 := Lib.hid (I13.out.below hB)
        clear hB hz13
        have hz14 := BL.out.size
        go_wp2_with (fail)
        refine (c_cmdwire_Decode lc A9 c9 _ (HT.out.below B0.out.1) (In9.out.below BL.out)).mono ?_
        rintro e w15 ⟨A15, n15, rfl, own15, hb15⟩
        rw [show decC lc = c by rw [HLC.out, HP3.out]] at own15 ⊢
        rw [show decE lc = 0 by rw [HLC.out, HP4.out]]
        have I15 := Lib.hid (In.ownN Node.cells_len own15 (by have := HI.out.2.2.1; omega))
        replace B0 := Lib.hid (B0.out.step hb15)
        replace HR := Lib.hid (HR.out.below hb15)
        replace I13 := Lib.hid (I13.out.below hb15)
        replace Bq := Lib.hid (Bq.out.below hb15 Bq.out.lt)
        clear own15 hb15 hz14 BL In9
        go_wp2_with (with_reducible refine stop_store 32 (.tmp 11) (.tmp 75) rfl rfl ?_)
        refine Stop.mk (wpList_storeB rfl _ _ _ rfl w15.heap.size _ rfl rfl _ (Blk.new _ _ _) strCm (Cmd.arr_size hc.out) (by rw [Cmd.arr_size hc.out]; rfl) (Cmd.arr_ones hc.out) ?_)
        intro w15s hb hk
        have hB := fresh_below hk
        obtain ⟨r, hq⟩ : ∃ q, q = w15.heap.size := ⟨_, rfl⟩
        rw [← hq] at hb ⊢
        have Br := Lib.hid hb
        clear hb hk hq
        replace B0 := Lib.hid (B0.out.step hB)
        replace HR := Lib.hid (HR.out.below hB)
        replace I13 := Lib.hid (I13.out.below hB)
        replace I15 := Lib.hid (I15.out.below hB)
        replace Bq := Lib.hid (Bq.out.below hB Bq.out.lt)
        clear hB
        go_wp2_with (fail)
        refine (c_octet_Err' (some g2) _ _ HR.out).mono ?_
        rintro e w17 ⟨rfl, hB⟩
        replace B0 := Lib.hid (B0.out.step hB)
        replace HR := Lib.hid (HR.out.below hB)
        replace I13 := Lib.hid (I13.out.below hB)
        replace I15 := Lib.hid (I15.out.below hB)
        replace Bq := Lib.hid (Bq.out.below hB Bq.out.lt)
        replace Br := Lib.hid (Br.out.below hB Br.out.lt)
        clear hB
        go_wp2_with (with_reducible refine stop_loadG 32 (.tmp 10) rfl ?_)
        refine Stop.mk (wpList_loadAtG (by rfl) _ _ rfl q 0 rfl (c.arr A13 n13) Bq.out.all strCm (Cmd.arr_size hc.out) ?_)
        go_wp2_with (with_reducible refine stop_loadG 32 (.tmp 2) rfl ?_)
        refine Stop.mk (wpList_loadAtG (by rfl) _ _ rfl w.heap.size 0 rfl (c.arr A n) B0.out.2.all strCm (Cmd.arr_size hc.out) ?_)
        go_wp2_with (fail)
        refine (c_ref33_Same c c A13 A n13 n _ hc.out hc.out I13.out (HI.out.below B0.out.1)).mono ?_
        rintro e w18 ⟨rfl, hB⟩
        rw [decide_eq_true (rfl : c = c)]
        replace B0 := Lib.hid (B0.out.step hB)
        replace HR := Lib.hid (HR.out.below hB)
        replace I15 := Lib.hid (I15.out.below hB)
        replace Br := Lib.hid (Br.out.below hB Br.out.lt)
        clear hB I13 Bq
        go_wp2_with (fail)
        refine (c_octet_Left' (some g2) _ _ HR.out).mono ?_
        rintro e w19 ⟨rfl, hB⟩
        replace B0 := Lib.hid (B0.out.step hB)
        replace I15 := Lib.hid (I15.out.below hB)
        replace Br := Lib.hid (Br.out.below hB Br.out.lt)
        clear hB HR
        go_wp2_with (with_reducible refine stop_loadG 32 (.tmp 11) rfl ?_)
        refine Stop.mk (wpList_loadAtG (by rfl) _ _ rfl r 0 rfl (c.arr A15 n15) Br.out.all strCm (Cmd.arr_size hc.out) ?_)
        go_wp2_with (with_reducible refine stop_loadG 32 (.tmp 2) rfl ?_)
        refine Stop.mk (wpList_loadAtG (by rfl) _ _ rfl w.heap.size 0 rfl (c.arr A n) B0.out.2.all strCm (Cmd.arr_size hc.out) ?_)
        go_wp2_with (fail)
        refine (c_ref33_Same c c A15 A n15 n _ hc.out hc.out I15.out (HI.out.below B0.out.1)).mono ?_
        rintro e w20 ⟨rfl, hB⟩
        rw [decide_eq_true (rfl : c = c)]
        replace B0 := Lib.hid (B0.out.step hB)
        clear hB I15 Br
        go_wp2_with (fail)
        refine (c_law33_awake _ (HT.out.below B0.out.1)).mono ?_
        rintro e2 w2 ⟨rfl, hb2⟩
        go_wp2_with (fail)
        go_ret
        exact RetV.bool rfl (B0.out.1.trans (hb2.mono B0.out.1.size))
end Go.Proofs.YtjhndilflcigiaaDoor
