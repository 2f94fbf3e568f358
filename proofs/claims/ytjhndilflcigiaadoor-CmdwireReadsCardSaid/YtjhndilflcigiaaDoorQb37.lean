/-
  The walks of chapter 33's Put: a command's bytes.
-/
import Derived.Test.YtjhndilflcigiaaDoorQb36
import Derived.Test.YtjhndilflcigiaaDoorRows
import Derived.WalkKit
import Derived.WalkSpells
import Derived.WalkLawsBesides
import Derived.Lib.Hide
import Derived.Deep.QuietTactic
import Derived.BigQuiet
import Derived.Maps.AppendAt
import Derived.WalkSmall
import Derived.ProofKit
import Derived.OpenShut
import Derived.JoinedCond
import Derived.Deep.Slices
import Derived.Deep.Fields
import Derived.Carry
import Derived.Deep.AppendSrc
import Derived.Lib.AppendStr
import Derived.Laws.BytesArg
import Derived.Test.YtjhndilflcigiaaDoorProg
import Derived.Shelf.Spec.TrailingZeros
import Derived.RangeFuncNested
import Derived.RangeFuncBound
import Derived.RangeFuncCalls
import Derived.RangeFuncLeaves
import Derived.Shelf.Abstract
import Derived.Shelf.RegionOpen
import Derived.OwnWalkIn
import Derived.TacticsInMore
import Derived.LoopNIn
import Derived.LoopIn
import Derived.Test.YtjhndilflcigiaaDoorTie
import Derived.Lib.LaidTab
import Derived.LaidMore
import Derived.SevenTiedAt
import Derived.Test.YtjhndilflcigiaaDoorCards
import Derived.Laws.Tables
import Derived.Laws.Rows
import Derived.Maps.Own
import Derived.Deep.CutBlock
import Derived.Deep.DeepCutAuto
import Derived.ChangeKeysEq
import Derived.Laws.StructEq
import Derived.Laws.CopyOwn
import Derived.Outline
import Derived.IntWalk
import Derived.Lib.EndianBits
import Derived.Lib.AppendZeros
import Derived.WalkMore
import Derived.StillTail
import Derived.Deep.Quiet
namespace Go.Proofs.YtjhndilflcigiaaDoor
open Go.RowKit

set_option maxHeartbeats 4000000 in
set_option maxRecDepth 4000 in
theorem cmdwire_Put_bad (b : List UInt8) (B : Option Addr) (cb : Nat) (c : Cmd) (A : Option Addr) (n : Nat) (w : World) (hb : InB w B cb b) (_hbl : b.length ≤ 800000) (hT : Tab w) (hwf : c.wf) (hr : c.rng) (hI : InN w A n c.f) (hs : ∀ x ∈ c.f, x.v.s.length ≤ 4294967000) (hse : ∀ x ∈ c.e.p.f, x.s.length ≤ 4294967000) (hsp : ∀ x ∈ c.p.f, x.s.length ≤ 4294967000) (hme : c.e.p.mask < 4294967296) (hmp : c.p.mask < 4294967296) (hm : c.mask < 4294967296) (hok : c.ok = false) :
    Calls Tryd.prog 11 #[.slice B b.length cb, .agg (c.arr A n)] w (RetS 1 bc 5 w (b ++ cmdB c)) := by
  have hL' := hb.1
  have hC' := hb.2.1
  have Hs := Lib.hid hs
  have Hse := Lib.hid hse
  have Hsp := Lib.hid hsp
  have HI := Lib.hid hI
  have HB := Lib.hid hb
  have HT := Lib.hid hT
  have hw := Lib.hid hwf
  have HR := Lib.hid hr
  have B0 := Lib.hid (At.new w 32 (c.arr A n))
  clear hs hse hsp hI hb hT hwf hr
  have H : Hid (b = b ++ cmdB c) := by show _ = _; rw [cmdB_bad hok, List.append_nil]
  go_enter Tryd.func11, Tryd.ntmps11
  go_wp2_with (with_reducible refine stop_load 32 (.tmp 3) rfl rfl ?_)
  refine Stop.mk (wpList_loadB rfl _ _ rfl w.heap.size rfl _ B0.out.2 strCm (Cmd.arr_size hw.out) ?_)
  go_wp2_with (fail)
  refine (c_core_Check c A n _ hw.out HR.out (HI.out.below B0.out.1) Hs.out Hse.out Hsp.out hme hmp hm).mono ?_
  rintro e w1 ⟨rfl, hb1⟩
  replace B0 := Lib.hid (B0.out.step hb1)
  clear hb1
  rw [hok]
  clear hok
  go_wp2_with (fail)
  refine (c_Clone_b b B cb _ (HB.out.below B0.out.1)).mono ?_
  rintro e w2 ⟨v2, rfl, own2, hb2⟩
  go_wp2_with (fail)
  go_ret
  exact RetS.of own2 B0.out.1.size H.out (B0.out.1.trans (hb2.mono B0.out.1.size))
set_option maxHeartbeats 4000000 in
set_option maxRecDepth 4000 in
theorem cmdwire_Put_5 (b : List UInt8) (B : Option Addr) (cb : Nat) (c : Cmd) (A : Option Addr) (n : Nat) (w : World) (hb : InB w B cb b) (hbl : b.length ≤ 800000) (hT : Tab w) (hwf : c.wf) (hr : c.rng) (hI : InN w A n c.f) (hs : ∀ x ∈ c.f, x.v.s.length ≤ 4294967000) (hse : ∀ x ∈ c.e.p.f, x.s.length ≤ 4294967000) (hsp : ∀ x ∈ c.p.f, x.s.length ≤ 4294967000) (hme : c.e.p.mask < 4294967296) (hmp : c.p.mask < 4294967296) (hm : c.mask < 4294967296) (hok : c.ok = true) (hk : c.kind = 5) :
    Calls Tryd.prog 11 #[.slice B b.length cb, .agg (c.arr A n)] w (RetS 1 bc 5 w (b ++ cmdB c)) := by
  have hL' := hb.1
  have hC' := hb.2.1
  have Hs := Lib.hid hs
  have Hse := Lib.hid hse
  have Hsp := Lib.hid hsp
  have HI := Lib.hid hI
  have HB := Lib.hid hb
  have HT := Lib.hid hT
  have hw := Lib.hid hwf
  have HR := Lib.hid hr
  have B0 := Lib.hid (At.new w 32 (c.arr A n))
  clear hs hse hsp hI hb hT hwf hr
  have H : Hid (b ++ num c.kind ++ num c.keep = b ++ cmdB c) := by show _ = _; rw [cmdB_ok hok, cmdT_5 hk, List.append_assoc]
  have j1 : (c.kind == 1) = false := by rw [hk]; rfl
  have j5 : (c.kind == 5) = true := by rw [hk]; rfl
  go_enter Tryd.func11, Tryd.ntmps11
  go_wp2_with (with_reducible refine stop_load 32 (.tmp 3) rfl rfl ?_)
  refine Stop.mk (wpList_loadB rfl _ _ rfl w.heap.size rfl _ B0.out.2 strCm (Cmd.arr_size hw.out) ?_)
  go_wp2_with (fail)
  refine (c_core_Check c A n _ hw.out HR.out (HI.out.below B0.out.1) Hs.out Hse.out Hsp.out hme hmp hm).mono ?_
  rintro e w1 ⟨rfl, hb1⟩
  replace B0 := Lib.hid (B0.out.step hb1)
  clear hb1
  rw [hok]
  clear hok hk
  have hn := (num_len c.kind).2
  obtain ⟨q0, q1, q2, q3, q4, q5, q6, q7⟩ := cmd_cells hw.out B0.out.2
  have H0 := Lib.hid (HB.out.below B0.out.1)
  go_wp2_with (fail)
  clear q0 q1 q2 q3 q4 q5 q6 q7
  refine (c_octet_Num b B cb c.kind _ H0.out).mono ?_
  rintro e w3 ⟨v3, rfl, own3, hb3⟩
  obtain ⟨l3, hl3⟩ : ∃ l, l = b ++ num c.kind := ⟨_, rfl⟩
  have ln3 : l3.length ≤ b.length + 7 := by rw [hl3, List.length_append]; omega
  rw [← hl3] at own3
  obtain ⟨A3, c3, rfl, in3⟩ := In.of_own bc_len own3 (by omega)
  have O3 := Lib.hid (own_base own3 B0.out.1.size)
  have I3 := Lib.hid in3
  replace B0 := Lib.hid (B0.out.step hb3)
  have L3 := Lib.hid hl3
  clear own3 hb3 in3 hl3
  obtain ⟨q0, q1, q2, q3, q4, q5, q6, q7⟩ := cmd_cells hw.out B0.out.2
  go_wp2_with (fail)
  clear q0 q1 q2 q3 q4 q5 q6 q7
  refine (c_octet_Num l3 A3 c3 c.keep _ I3.out).mono ?_
  rintro e w4 ⟨v4, rfl, own4, hb4⟩
  go_wp2_with (fail)
  go_ret
  exact RetS.of own4 B0.out.1.size (by rw [L3.out]; exact H.out) (B0.out.1.trans (hb4.mono B0.out.1.size))
set_option maxHeartbeats 4000000 in
set_option maxRecDepth 4000 in
theorem cmdwire_Put_1 (b : List UInt8) (B : Option Addr) (cb : Nat) (c : Cmd) (A : Option Addr) (n : Nat) (w : World) (hb : InB w B cb b) (hbl : b.length ≤ 800000) (hT : Tab w) (hwf : c.wf) (hr : c.rng) (hI : InN w A n c.f) (hs : ∀ x ∈ c.f, x.v.s.length ≤ 4294967000) (hse : ∀ x ∈ c.e.p.f, x.s.length ≤ 4294967000) (hsp : ∀ x ∈ c.p.f, x.s.length ≤ 4294967000) (hme : c.e.p.mask < 4294967296) (hmp : c.p.mask < 4294967296) (hm : c.mask < 4294967296) (hok : c.ok = true) (hk : c.kind = 1) :
    Calls Tryd.prog 11 #[.slice B b.length cb, .agg (c.arr A n)] w (RetS 1 bc 5 w (b ++ cmdB c)) := by
  have hL' := hb.1
  have hC' := hb.2.1
  have Hs := Lib.hid hs
  have Hse := Lib.hid hse
  have Hsp := Lib.hid hsp
  have HI := Lib.hid hI
  have HB := Lib.hid hb
  have HT := Lib.hid hT
  have hw := Lib.hid hwf
  have HR := Lib.hid hr
  have B0 := Lib.hid (At.new w 32 (c.arr A n))
  clear hs hse hsp hI hb hT hwf hr
  have H : Hid (b ++ num c.kind ++ editB c.e = b ++ cmdB c) := by show _ = _; rw [cmdB_ok hok, cmdT_1 hk, List.append_assoc]
  have j1 : (c.kind == 1) = true := by rw [hk]; rfl
  go_enter Tryd.func11, Tryd.ntmps11
  go_wp2_with (with_reducible refine stop_load 32 (.tmp 3) rfl rfl ?_)
  refine Stop.mk (wpList_loadB rfl _ _ rfl w.heap.size rfl _ B0.out.2 strCm (Cmd.arr_size hw.out) ?_)
  go_wp2_with (fail)
  refine (c_core_Check c A n _ hw.out HR.out (HI.out.below B0.out.1) Hs.out Hse.out Hsp.out hme hmp hm).mono ?_
  rintro e w1 ⟨rfl, hb1⟩
  replace B0 := Lib.hid (B0.out.step hb1)
  clear hb1
  rw [hok]
  clear hok hk
  have hn := (num_len c.kind).2
  obtain ⟨q0, q1, q2, q3, q4, q5, q6, q7⟩ := cmd_cells hw.out B0.out.2
  have H0 := Lib.hid (HB.out.below B0.out.1)
  go_wp2_with (fail)
  clear q0 q1 q2 q3 q4 q5 q6 q7
  refine (c_octet_Num b B cb c.kind _ H0.out).mono ?_
  rintro e w3 ⟨v3, rfl, own3, hb3⟩
  obtain ⟨l3, hl3⟩ : ∃ l, l = b ++ num c.kind := ⟨_, rfl⟩
  have ln3 : l3.length ≤ b.length + 7 := by rw [hl3, List.length_append]; omega
  rw [← hl3] at own3
  obtain ⟨A3, c3, rfl, in3⟩ := In.of_own bc_len own3 (by omega)
  have O3 := Lib.hid (own_base own3 B0.out.1.size)
  have I3 := Lib.hid in3
  replace B0 := Lib.hid (B0.out.step hb3)
  have L3 := Lib.hid hl3
  clear own3 hb3 in3 hl3
  obtain ⟨q0, q1, q2, q3, q4, q5, q6, q7⟩ := cmd_cells hw.out B0.out.2
  go_wp2_with (with_reducible refine stop_loadG 29 (.tmp 19) rfl ?_)
  clear q0 q1 q2 q3 q4 q5 q6 q7
  refine Stop.mk (wpList_loadAtG (by rfl) _ _ rfl w.heap.size 1 rfl c.e.arr (cmd_edit hw.out B0.out.2) strE (by rw [Edit.arr_size, hw.out.e]) ?_)
  go_wp2_with (fail)
  refine (c_edit_Put l3 A3 c3 c.e _ I3.out (by omega) (HT.out.below B0.out.1) hw.out.e Hse.out hme).mono ?_
  rintro e w4 ⟨v4, rfl, own4, hb4⟩
  go_wp2_with (fail)
  go_ret
  exact RetS.of own4 B0.out.1.size (by rw [L3.out]; exact H.out) (B0.out.1.trans (hb4.mono B0.out.1.size))
set_option maxHeartbeats 4000000 in
set_option maxRecDepth 4000 in
theorem cmdwire_Put_2 (b : List UInt8) (B : Option Addr) (cb : Nat) (c : Cmd) (A : Option Addr) (n : Nat) (w : World) (hb : InB w B cb b) (hbl : b.length ≤ 800000) (hT : Tab w) (hwf : c.wf) (hr : c.rng) (hI : InN w A n c.f) (hs : ∀ x ∈ c.f, x.v.s.length ≤ 4294967000) (hse : ∀ x ∈ c.e.p.f, x.s.length ≤ 4294967000) (hsp : ∀ x ∈ c.p.f, x.s.length ≤ 4294967000) (hme : c.e.p.mask < 4294967296) (hmp : c.p.mask < 4294967296) (hm : c.mask < 4294967296) (hok : c.ok = true) (hk : c.kind = 2) :
    Calls Tryd.prog 11 #[.slice B b.length cb, .agg (c.arr A n)] w (RetS 1 bc 5 w (b ++ cmdB c)) := by
  have hL' := hb.1
  have hC' := hb.2.1
  have Hs := Lib.hid hs
  have Hse := Lib.hid hse
  have Hsp := Lib.hid hsp
  have HI := Lib.hid hI
  have HB := Lib.hid hb
  have HT := Lib.hid hT
  have hw := Lib.hid hwf
  have HR := Lib.hid hr
  have B0 := Lib.hid (At.new w 32 (c.arr A n))
  clear hs hse hsp hI hb hT hwf hr
  have j1 : (c.kind == 1) = false := by rw [hk]; rfl
  have j5 : (c.kind == 5) = false := by rw [hk]; rfl
  have j2 : (c.kind == 2) = true := by rw [hk]; rfl
  go_enter Tryd.func11, Tryd.ntmps11
  go_wp2_with (with_reducible refine stop_load 32 (.tmp 3) rfl rfl ?_)
  refine Stop.mk (wpList_loadB rfl _ _ rfl w.heap.size rfl _ B0.out.2 strCm (Cmd.arr_size hw.out) ?_)
  go_wp2_with (fail)
  refine (c_core_Check c A n _ hw.out HR.out (HI.out.below B0.out.1) Hs.out Hse.out Hsp.out hme hmp hm).mono ?_
  rintro e w1 ⟨rfl, hb1⟩
  replace B0 := Lib.hid (B0.out.step hb1)
  clear hb1
  rw [hok]
  have HOK := Lib.hid hok
  have HKK := Lib.hid hk
  clear hok hk
  have hn := (num_len c.kind).2
  obtain ⟨q0, q1, q2, q3, q4, q5, q6, q7⟩ := cmd_cells hw.out B0.out.2
  have H0 := Lib.hid (HB.out.below B0.out.1)
  go_wp2_with (fail)
  clear q0 q1 q2 q3 q4 q5 q6 q7
  refine (c_octet_Num b B cb c.kind _ H0.out).mono ?_
  rintro e w3 ⟨v3, rfl, own3, hb3⟩
  obtain ⟨l3, hl3⟩ : ∃ l, l = b ++ num c.kind := ⟨_, rfl⟩
  have ln3 : l3.length ≤ b.length + 7 := by rw [hl3, List.length_append]; omega
  rw [← hl3] at own3
  obtain ⟨A3, c3, rfl, in3⟩ := In.of_own bc_len own3 (by omega)
  have O3 := Lib.hid (own_base own3 B0.out.1.size)
  have I3 := Lib.hid in3
  replace B0 := Lib.hid (B0.out.step hb3)
  have L3 := Lib.hid hl3
  clear own3 hb3 in3 hl3
  obtain ⟨q0, q1, q2, q3, q4, q5, q6, q7⟩ := cmd_cells hw.out B0.out.2
  have hn1 := (num_len c.dev).2
  have hn2 := (num_len c.req).2
  have hn3 := (num_len c.id).2
  have hn4 := (num_len c.base).2
  have hn5 := (num_len (c.mask : Int)).2
  have hn6 := patchB_len c.p
  have hn7 := putB_len c.f
  obtain ⟨l4, hl4⟩ : ∃ l4, l4 = l3 ++ num c.dev := ⟨_, rfl⟩
  have l4n : l4.length ≤ b.length + 14 := by rw [hl4]; simp only [List.length_append]; omega
  have L4 := Lib.hid hl4
  obtain ⟨l5, hl5⟩ : ∃ l5, l5 = l4 ++ num c.req := ⟨_, rfl⟩
  have l5n : l5.length ≤ b.length + 21 := by rw [hl5]; simp only [List.length_append]; omega
  have L5 := Lib.hid hl5
  obtain ⟨l6, hl6⟩ : ∃ l6, l6 = l5 ++ num c.id := ⟨_, rfl⟩
  have l6n : l6.length ≤ b.length + 28 := by rw [hl6]; simp only [List.length_append]; omega
  have L6 := Lib.hid hl6
  obtain ⟨l7, hl7⟩ : ∃ l7, l7 = l6 ++ num c.base := ⟨_, rfl⟩
  have l7n : l7.length ≤ b.length + 35 := by rw [hl7]; simp only [List.length_append]; omega
  have L7 := Lib.hid hl7
  obtain ⟨l8, hl8⟩ : ∃ l8, l8 = l7 ++ patchB c.p := ⟨_, rfl⟩
  have l8n : l8.length ≤ b.length + 1000 := by rw [hl8]; simp only [List.length_append]; omega
  have L8 := Lib.hid hl8
  have H : Hid (l8 = b ++ cmdB c) := by show _ = _; rw [hl8, hl7, hl6, hl5, hl4, L3.out, cmdB_ok HOK.out, cmdT_2 HKK.out]; simp
  clear HOK HKK hl4 hl5 hl6 hl7 hl8
  go_wp2_with (fail)
  clear q0 q1 q2 q3 q4 q5 q6 q7
  have OB := Lib.hid O3.out
  have Bw := Lib.hid B0.out.2
  have hbw := B0.out.1.size
  refine wp_region_rel [Sp.own w.heap.size 5 1 bc l3, Sp.eq (.pointer (some ⟨w.heap.size, 30, none⟩)), Sp.eq (.int .i64 c.dev), Sp.own w.heap.size 5 1 bc l4, Sp.eq (.pointer (some ⟨w.heap.size, 31, none⟩)), Sp.eq (.int .i64 c.req), Sp.own w.heap.size 5 1 bc l5, Sp.own w.heap.size 5 1 bc l5] 60 (by kernel_rfl) (by kernel_rfl) rfl rfl ?_ ?_
  · refine ⟨?_, ?_, ?_, ?_, ?_, ?_, ?_, ?_, trivial⟩
    all_goals (intro u w2 hb2 hd; simp [Deps, Region.binds, Sp.own_holds, Sp.eq_holds] at hd; simp only [putDeps, dstOf, Region.binds])
    case refine_1 =>
      go_wp2_with (fail); exact RelEnd.mk rfl (Below.refl _ _) (own_below OB.out hb2)
    case refine_2 =>
      go_wp2_with (fail); exact RelEnd.mk rfl (Below.refl _ _) rfl
    case refine_3 =>
      have q : w2.cell? ⟨w.heap.size, 30, none⟩ = some (.int .i64 c.dev) := (Bw.out.below hb2 Bw.out.lt).cell (Cmd.getI hw.out 0 (by omega))
      go_wp2_with (fail); exact RelEnd.mk rfl (Below.refl _ _) rfl
    case refine_4 =>
      have hx := hd.1
      obtain ⟨A4, c4, e4, in4⟩ := In.of_own bc_len hx (by omega)
      go_wp2_with (go_at_call 37; refine (c_octet_Num l3 A4 c4 _ _ in4).mono ?_; rintro e w3 ⟨v3, rfl, own3, hb3⟩)
      rw [← L4.out] at own3
      exact RelEnd.mk rfl hb3 (own_base own3 (Nat.le_trans hbw hb2.size))
    case refine_5 =>
      go_wp2_with (fail); exact RelEnd.mk rfl (Below.refl _ _) rfl
    case refine_6 =>
      have q : w2.cell? ⟨w.heap.size, 31, none⟩ = some (.int .i64 c.req) := (Bw.out.below hb2 Bw.out.lt).cell (Cmd.getI hw.out 1 (by omega))
      go_wp2_with (fail); exact RelEnd.mk rfl (Below.refl _ _) rfl
    case refine_7 =>
      have hx := hd.1
      obtain ⟨A4, c4, e4, in4⟩ := In.of_own bc_len hx (by omega)
      go_wp2_with (go_at_call 37; refine (c_octet_Num l4 A4 c4 _ _ in4).mono ?_; rintro e w3 ⟨v3, rfl, own3, hb3⟩)
      rw [← L5.out] at own3
      exact RelEnd.mk rfl hb3 (own_base own3 (Nat.le_trans hbw hb2.size))
    case refine_8 =>
      go_wp2_with (fail); exact RelEnd.mk rfl (Below.refl _ _) hd.1
  · intro u w2 hb2 hold
    simp only [RelHold, Sp.eq_holds, Sp.own_holds] at hold
    obtain ⟨-, -, -, -, -, -, -, hE, -⟩ := hold
    simp only [putAll, Act.put, Nat.reduceAdd, List.setIfInBounds_toArray, List.set_cons_zero, List.set_cons_succ]
    obtain ⟨A5, c5, e5, -⟩ := In.of_own bc_len hE (by omega)
    replace B0 := Lib.hid (B0.out.step hb2)
    replace OB := Lib.hid hE
    rw [e5] at OB ⊢
    clear hE e5 O3 I3 Bw hbw
    obtain ⟨q0, q1, q2, q3, q4, q5, q6, q7⟩ := cmd_cells hw.out B0.out.2
    go_wp2_with (fail)
    clear q0 q1 q2 q3 q4 q5 q6 q7
    have Bw := Lib.hid B0.out.2
    have hbw := B0.out.1.size
    have HIw := Lib.hid (HI.out.below B0.out.1)
    have HTw := Lib.hid (HT.out.below B0.out.1)
    refine wp_region_rel [Sp.own w.heap.size 5 1 bc l5, Sp.eq (.pointer (some ⟨w.heap.size, 32, none⟩)), Sp.eq (.int .i64 c.id), Sp.own w.heap.size 5 1 bc l6, Sp.eq (.pointer (some ⟨w.heap.size, 33, none⟩)), Sp.eq (.int .i64 c.base), Sp.own w.heap.size 5 1 bc l7, Sp.eq (.pointer (some ⟨w.heap.size, 35, none⟩)), Sp.eq (.agg c.p.arr), Sp.own w.heap.size 5 1 bc l8, Sp.own w.heap.size 5 1 bc l8] 60 (by kernel_rfl) (by kernel_rfl) rfl rfl ?_ ?_
    · refine ⟨?_, ?_, ?_, ?_, ?_, ?_, ?_, ?_, ?_, ?_, ?_, trivial⟩
      all_goals (intro u w2 hb2 hd; simp [Deps, Region.binds, Sp.own_holds, Sp.eq_holds] at hd; simp only [putDeps, dstOf, Region.binds])
      case refine_1 =>
        go_wp2_with (fail); exact RelEnd.mk rfl (Below.refl _ _) (own_below OB.out hb2)
      case refine_2 =>
        go_wp2_with (fail); exact RelEnd.mk rfl (Below.refl _ _) rfl
      case refine_3 =>
        have q : w2.cell? ⟨w.heap.size, 32, none⟩ = some (.int .i64 c.id) := (Bw.out.below hb2 Bw.out.lt).cell (Cmd.getI hw.out 2 (by omega))
        go_wp2_with (fail); exact RelEnd.mk rfl (Below.refl _ _) rfl
      case refine_4 =>
        have hx := hd.1
        obtain ⟨A4, c4, e4, in4⟩ := In.of_own bc_len hx (by omega)
        go_wp2_with (go_at_call 37; refine (c_octet_Num l5 A4 c4 _ _ in4).mono ?_; rintro e w3 ⟨v3, rfl, own3, hb3⟩)
        rw [← L6.out] at own3
        exact RelEnd.mk rfl hb3 (own_base own3 (Nat.le_trans hbw hb2.size))
      case refine_5 =>
        go_wp2_with (fail); exact RelEnd.mk rfl (Below.refl _ _) rfl
      case refine_6 =>
        have q : w2.cell? ⟨w.heap.size, 33, none⟩ = some (.int .i64 c.base) := (Bw.out.below hb2 Bw.out.lt).cell (Cmd.getI hw.out 3 (by omega))
        go_wp2_with (fail); exact RelEnd.mk rfl (Below.refl _ _) rfl
      case refine_7 =>
        have hx := hd.1
        obtain ⟨A4, c4, e4, in4⟩ := In.of_own bc_len hx (by omega)
        go_wp2_with (go_at_call 37; refine (c_octet_Num l6 A4 c4 _ _ in4).mono ?_; rintro e w3 ⟨v3, rfl, own3, hb3⟩)
        rw [← L7.out] at own3
        exact RelEnd.mk rfl hb3 (own_base own3 (Nat.le_trans hbw hb2.size))
      case refine_8 =>
        go_wp2_with (fail); exact RelEnd.mk rfl (Below.refl _ _) rfl
      case refine_9 =>
        go_wp2_with (with_reducible refine stop_loadG 27 (.tmp 46) rfl ?_)
        refine Stop.mk (wpList_loadAtG (by simp [Region.wanted]) _ _ rfl w.heap.size 35 rfl c.p.arr (cmd_patch hw.out (Bw.out.below hb2 Bw.out.lt)) strP (by rw [Patch.arr_size, hw.out.p]) ?_)
        go_wp2_with (fail); exact RelEnd.mk rfl (Below.refl _ _) rfl
      case refine_10 =>
        have hx := hd.1
        obtain ⟨A4, c4, e4, in4⟩ := In.of_own bc_len hx (by omega)
        go_wp2_with (go_at_call 39; refine (c_cardwire_PutPatch l7 A4 c4 c.p _ in4 (by omega) (HTw.out.below hb2) hmp hw.out.p Hsp.out).mono ?_; rintro e w3 ⟨v3, rfl, own3, hb3⟩)
        rw [← L8.out] at own3
        exact RelEnd.mk rfl hb3 (own_base own3 (Nat.le_trans hbw hb2.size))
      case refine_11 =>
        go_wp2_with (fail); exact RelEnd.mk rfl (Below.refl _ _) hd.1
    · intro u w2 hb2 hold
      simp only [RelHold, Sp.eq_holds, Sp.own_holds] at hold
      obtain ⟨-, -, -, -, -, -, -, -, -, -, hE, -⟩ := hold
      simp only [putAll, Act.put, Nat.reduceAdd, List.setIfInBounds_toArray, List.set_cons_zero, List.set_cons_succ]
      obtain ⟨A5, c5, e5, -⟩ := In.of_own bc_len hE (by omega)
      have B5 := Lib.hid (B0.out.step hb2)
      have OE := Lib.hid hE
      rw [e5] at OE ⊢
      clear hE e5
      go_wp2_with (fail)
      go_ret
      exact RetS.of OE.out (Nat.le_refl _) H.out B5.out.1
set_option maxHeartbeats 4000000 in
set_option maxRecDepth 4000 in
theorem cmdwire_Put_3 (b : List UInt8) (B : Option Addr) (cb : Nat) (c : Cmd) (A : Option Addr) (n : Nat) (w : World) (hb : InB w B cb b) (hbl : b.length ≤ 800000) (hT : Tab w) (hwf : c.wf) (hr : c.rng) (hI : InN w A n c.f) (hs : ∀ x ∈ c.f, x.v.s.length ≤ 4294967000) (hse : ∀ x ∈ c.e.p.f, x.s.length ≤ 4294967000) (hsp : ∀ x ∈ c.p.f, x.s.length ≤ 4294967000) (hme : c.e.p.mask < 4294967296) (hmp : c.p.mask < 4294967296) (hm : c.mask < 4294967296) (hok : c.ok = true) (hk : c.kind = 3) :
    Calls Tryd.prog 11 #[.slice B b.length cb, .agg (c.arr A n)] w (RetS 1 bc 5 w (b ++ cmdB c)) := by
  have hL' := hb.1
  have hC' := hb.2.1
  have Hs := Lib.hid hs
  have Hse := Lib.hid hse
  have Hsp := Lib.hid hsp
  have HI := Lib.hid hI
  have HB := Lib.hid hb
  have HT := Lib.hid hT
  have hw := Lib.hid hwf
  have HR := Lib.hid hr
  have B0 := Lib.hid (At.new w 32 (c.arr A n))
  clear hs hse hsp hI hb hT hwf hr
  have j1 : (c.kind == 1) = false := by rw [hk]; rfl
  have j5 : (c.kind == 5) = false := by rw [hk]; rfl
  have j2 : (c.kind == 2) = false := by rw [hk]; rfl
  have j3 : (c.kind == 3) = true := by rw [hk]; rfl
  go_enter Tryd.func11, Tryd.ntmps11
  go_wp2_with (with_reducible refine stop_load 32 (.tmp 3) rfl rfl ?_)
  refine Stop.mk (wpList_loadB rfl _ _ rfl w.heap.size rfl _ B0.out.2 strCm (Cmd.arr_size hw.out) ?_)
  go_wp2_with (fail)
  refine (c_core_Check c A n _ hw.out HR.out (HI.out.below B0.out.1) Hs.out Hse.out Hsp.out hme hmp hm).mono ?_
  rintro e w1 ⟨rfl, hb1⟩
  replace B0 := Lib.hid (B0.out.step hb1)
  clear hb1
  rw [hok]
  have HOK := Lib.hid hok
  have HKK := Lib.hid hk
  clear hok hk
  have hn := (num_len c.kind).2
  obtain ⟨q0, q1, q2, q3, q4, q5, q6, q7⟩ := cmd_cells hw.out B0.out.2
  have H0 := Lib.hid (HB.out.below B0.out.1)
  go_wp2_with (fail)
  clear q0 q1 q2 q3 q4 q5 q6 q7
  refine (c_octet_Num b B cb c.kind _ H0.out).mono ?_
  rintro e w3 ⟨v3, rfl, own3, hb3⟩
  obtain ⟨l3, hl3⟩ : ∃ l, l = b ++ num c.kind := ⟨_, rfl⟩
  have ln3 : l3.length ≤ b.length + 7 := by rw [hl3, List.length_append]; omega
  rw [← hl3] at own3
  obtain ⟨A3, c3, rfl, in3⟩ := In.of_own bc_len own3 (by omega)
  have O3 := Lib.hid (own_base own3 B0.out.1.size)
  have I3 := Lib.hid in3
  replace B0 := Lib.hid (B0.out.step hb3)
  have L3 := Lib.hid hl3
  clear own3 hb3 in3 hl3
  obtain ⟨q0, q1, q2, q3, q4, q5, q6, q7⟩ := cmd_cells hw.out B0.out.2
  have hn1 := (num_len c.dev).2
  have hn2 := (num_len c.req).2
  have hn3 := (num_len c.id).2
  have hn4 := (num_len c.base).2
  have hn5 := (num_len (c.mask : Int)).2
  have hn6 := patchB_len c.p
  have hn7 := putB_len c.f
  obtain ⟨l4, hl4⟩ : ∃ l4, l4 = l3 ++ num c.dev := ⟨_, rfl⟩
  have l4n : l4.length ≤ b.length + 14 := by rw [hl4]; simp only [List.length_append]; omega
  have L4 := Lib.hid hl4
  obtain ⟨l5, hl5⟩ : ∃ l5, l5 = l4 ++ num c.req := ⟨_, rfl⟩
  have l5n : l5.length ≤ b.length + 21 := by rw [hl5]; simp only [List.length_append]; omega
  have L5 := Lib.hid hl5
  obtain ⟨l6, hl6⟩ : ∃ l6, l6 = l5 ++ putB c.f := ⟨_, rfl⟩
  have l6n : l6.length ≤ b.length + 1700 := by rw [hl6]; simp only [List.length_append]; omega
  have L6 := Lib.hid hl6
  obtain ⟨l7, hl7⟩ : ∃ l7, l7 = l6 ++ num c.mask := ⟨_, rfl⟩
  have l7n : l7.length ≤ b.length + 1707 := by rw [hl7]; simp only [List.length_append]; omega
  have L7 := Lib.hid hl7
  have H : Hid (l7 = b ++ cmdB c) := by show _ = _; rw [hl7, hl6, hl5, hl4, L3.out, cmdB_ok HOK.out, cmdT_3 HKK.out]; simp
  clear HOK HKK hl4 hl5 hl6 hl7
  go_wp2_with (fail)
  clear q0 q1 q2 q3 q4 q5 q6 q7
  have OB := Lib.hid O3.out
  have Bw := Lib.hid B0.out.2
  have hbw := B0.out.1.size
  refine wp_region_rel [Sp.own w.heap.size 5 1 bc l3, Sp.eq (.pointer (some ⟨w.heap.size, 30, none⟩)), Sp.eq (.int .i64 c.dev), Sp.own w.heap.size 5 1 bc l4, Sp.eq (.pointer (some ⟨w.heap.size, 31, none⟩)), Sp.eq (.int .i64 c.req), Sp.own w.heap.size 5 1 bc l5, Sp.own w.heap.size 5 1 bc l5] 60 (by kernel_rfl) (by kernel_rfl) rfl rfl ?_ ?_
  · refine ⟨?_, ?_, ?_, ?_, ?_, ?_, ?_, ?_, trivial⟩
    all_goals (intro u w2 hb2 hd; simp [Deps, Region.binds, Sp.own_holds, Sp.eq_holds] at hd; simp only [putDeps, dstOf, Region.binds])
    case refine_1 =>
      go_wp2_with (fail); exact RelEnd.mk rfl (Below.refl _ _) (own_below OB.out hb2)
    case refine_2 =>
      go_wp2_with (fail); exact RelEnd.mk rfl (Below.refl _ _) rfl
    case refine_3 =>
      have q : w2.cell? ⟨w.heap.size, 30, none⟩ = some (.int .i64 c.dev) := (Bw.out.below hb2 Bw.out.lt).cell (Cmd.getI hw.out 0 (by omega))
      go_wp2_with (fail); exact RelEnd.mk rfl (Below.refl _ _) rfl
    case refine_4 =>
      have hx := hd.1
      obtain ⟨A4, c4, e4, in4⟩ := In.of_own bc_len hx (by omega)
      go_wp2_with (go_at_call 37; refine (c_octet_Num l3 A4 c4 _ _ in4).mono ?_; rintro e w3 ⟨v3, rfl, own3, hb3⟩)
      rw [← L4.out] at own3
      exact RelEnd.mk rfl hb3 (own_base own3 (Nat.le_trans hbw hb2.size))
    case refine_5 =>
      go_wp2_with (fail); exact RelEnd.mk rfl (Below.refl _ _) rfl
    case refine_6 =>
      have q : w2.cell? ⟨w.heap.size, 31, none⟩ = some (.int .i64 c.req) := (Bw.out.below hb2 Bw.out.lt).cell (Cmd.getI hw.out 1 (by omega))
      go_wp2_with (fail); exact RelEnd.mk rfl (Below.refl _ _) rfl
    case refine_7 =>
      have hx := hd.1
      obtain ⟨A4, c4, e4, in4⟩ := In.of_own bc_len hx (by omega)
      go_wp2_with (go_at_call 37; refine (c_octet_Num l4 A4 c4 _ _ in4).mono ?_; rintro e w3 ⟨v3, rfl, own3, hb3⟩)
      rw [← L5.out] at own3
      exact RelEnd.mk rfl hb3 (own_base own3 (Nat.le_trans hbw hb2.size))
    case refine_8 =>
      go_wp2_with (fail); exact RelEnd.mk rfl (Below.refl _ _) hd.1
  · intro u w2 hb2 hold
    simp only [RelHold, Sp.eq_holds, Sp.own_holds] at hold
    obtain ⟨-, -, -, -, -, -, -, hE, -⟩ := hold
    simp only [putAll, Act.put, Nat.reduceAdd, List.setIfInBounds_toArray, List.set_cons_zero, List.set_cons_succ]
    obtain ⟨A5, c5, e5, -⟩ := In.of_own bc_len hE (by omega)
    replace B0 := Lib.hid (B0.out.step hb2)
    replace OB := Lib.hid hE
    rw [e5] at OB ⊢
    clear hE e5 O3 I3 Bw hbw
    obtain ⟨q0, q1, q2, q3, q4, q5, q6, q7⟩ := cmd_cells hw.out B0.out.2
    go_wp2_with (fail)
    clear q0 q1 q2 q3 q4 q5 q6 q7
    have Bw := Lib.hid B0.out.2
    have hbw := B0.out.1.size
    have HIw := Lib.hid (HI.out.below B0.out.1)
    have HTw := Lib.hid (HT.out.below B0.out.1)
    refine wp_region_rel [Sp.own w.heap.size 5 1 bc l5, Sp.eq (.pointer (some ⟨w.heap.size, 61, none⟩)), Sp.eq (.slice A c.f.length n), Sp.own w.heap.size 5 1 bc l6, Sp.eq (.pointer (some ⟨w.heap.size, 62, none⟩)), Sp.eq (.int .u32 c.mask), Sp.eq (.int .i64 c.mask), Sp.own w.heap.size 5 1 bc l7, Sp.own w.heap.size 5 1 bc l7] 60 (by kernel_rfl) (by kernel_rfl) rfl rfl ?_ ?_
    · refine ⟨?_, ?_, ?_, ?_, ?_, ?_, ?_, ?_, ?_, trivial⟩
      all_goals (intro u w2 hb2 hd; simp [Deps, Region.binds, Sp.own_holds, Sp.eq_holds] at hd; simp only [putDeps, dstOf, Region.binds])
      case refine_1 =>
        go_wp2_with (fail); exact RelEnd.mk rfl (Below.refl _ _) (own_below OB.out hb2)
      case refine_2 =>
        go_wp2_with (fail); exact RelEnd.mk rfl (Below.refl _ _) rfl
      case refine_3 =>
        have q : w2.cell? ⟨w.heap.size, 61, none⟩ = some (.slice A c.f.length n) := (Bw.out.below hb2 Bw.out.lt).cell (Cmd.getF hw.out 0 (by omega))
        go_wp2_with (fail); exact RelEnd.mk rfl (Below.refl _ _) rfl
      case refine_4 =>
        have hx := hd.1
        obtain ⟨A4, c4, e4, in4⟩ := In.of_own bc_len hx (by omega)
        go_wp2_with (go_at_call 40; refine (c_predwire_Put l5 A4 c4 c.f A n _ in4 (HIw.out.below hb2) (by omega) Hs.out).mono ?_; rintro e w3 ⟨v3, rfl, own3, hb3⟩)
        rw [← L6.out] at own3
        exact RelEnd.mk rfl hb3 (own_base own3 (Nat.le_trans hbw hb2.size))
      case refine_5 =>
        go_wp2_with (fail); exact RelEnd.mk rfl (Below.refl _ _) rfl
      case refine_6 =>
        have q : w2.cell? ⟨w.heap.size, 62, none⟩ = some (.int .u32 c.mask) := (Bw.out.below hb2 Bw.out.lt).cell (Cmd.getF hw.out 1 (by omega))
        go_wp2_with (fail); exact RelEnd.mk rfl (Below.refl _ _) rfl
      case refine_7 =>
        go_wp2_with (fail); exact RelEnd.mk rfl (Below.refl _ _) rfl
      case refine_8 =>
        have hx := hd.1
        obtain ⟨A4, c4, e4, in4⟩ := In.of_own bc_len hx (by omega)
        go_wp2_with (go_at_call 37; refine (c_octet_Num l6 A4 c4 _ _ in4).mono ?_; rintro e w3 ⟨v3, rfl, own3, hb3⟩)
        rw [← L7.out] at own3
        exact RelEnd.mk rfl hb3 (own_base own3 (Nat.le_trans hbw hb2.size))
      case refine_9 =>
        go_wp2_with (fail); exact RelEnd.mk rfl (Below.refl _ _) hd.1
    · intro u w2 hb2 hold
      simp only [RelHold, Sp.eq_holds, Sp.own_holds] at hold
      obtain ⟨-, -, -, -, -, -, -, -, hE, -⟩ := hold
      simp only [putAll, Act.put, Nat.reduceAdd, List.setIfInBounds_toArray, List.set_cons_zero, List.set_cons_succ]
      obtain ⟨A5, c5, e5, -⟩ := In.of_own bc_len hE (by omega)
      have B5 := Lib.hid (B0.out.step hb2)
      have OE := Lib.hid hE
      rw [e5] at OE ⊢
      clear hE e5
      go_wp2_with (fail)
      go_ret
      exact RetS.of OE.out (Nat.le_refl _) H.out B5.out.1
set_option maxHeartbeats 4000000 in
set_option maxRecDepth 4000 in
theorem cmdwire_Put_4 (b : List UInt8) (B : Option Addr) (cb : Nat) (c : Cmd) (A : Option Addr) (n : Nat) (w : World) (hb : InB w B cb b) (hbl : b.length ≤ 800000) (hT : Tab w) (hwf : c.wf) (hr : c.rng) (hI : InN w A n c.f) (hs : ∀ x ∈ c.f, x.v.s.length ≤ 4294967000) (hse : ∀ x ∈ c.e.p.f, x.s.length ≤ 4294967000) (hsp : ∀ x ∈ c.p.f, x.s.length ≤ 4294967000) (hme : c.e.p.mask < 4294967296) (hmp : c.p.mask < 4294967296) (hm : c.mask < 4294967296) (hok : c.ok = true) (hk : c.kind = 4) :
    Calls Tryd.prog 11 #[.slice B b.length cb, .agg (c.arr A n)] w (RetS 1 bc 5 w (b ++ cmdB c)) := by
  have hL' := hb.1
  have hC' := hb.2.1
  have Hs := Lib.hid hs
  have Hse := Lib.hid hse
  have Hsp := Lib.hid hsp
  have HI := Lib.hid hI
  have HB := Lib.hid hb
  have HT := Lib.hid hT
  have hw := Lib.hid hwf
  have HR := Lib.hid hr
  have B0 := Lib.hid (At.new w 32 (c.arr A n))
  clear hs hse hsp hI hb hT hwf hr
  have j1 : (c.kind == 1) = false := by rw [hk]; rfl
  have j5 : (c.kind == 5) = false := by rw [hk]; rfl
  have j2 : (c.kind == 2) = false := by rw [hk]; rfl
  have j3 : (c.kind == 3) = false := by rw [hk]; rfl
  go_enter Tryd.func11, Tryd.ntmps11
  go_wp2_with (with_reducible refine stop_load 32 (.tmp 3) rfl rfl ?_)
  refine Stop.mk (wpList_loadB rfl _ _ rfl w.heap.size rfl _ B0.out.2 strCm (Cmd.arr_size hw.out) ?_)
  go_wp2_with (fail)
  refine (c_core_Check c A n _ hw.out HR.out (HI.out.below B0.out.1) Hs.out Hse.out Hsp.out hme hmp hm).mono ?_
  rintro e w1 ⟨rfl, hb1⟩
  replace B0 := Lib.hid (B0.out.step hb1)
  clear hb1
  rw [hok]
  have HOK := Lib.hid hok
  have HKK := Lib.hid hk
  clear hok hk
  have hn := (num_len c.kind).2
  obtain ⟨q0, q1, q2, q3, q4, q5, q6, q7⟩ := cmd_cells hw.out B0.out.2
  have H0 := Lib.hid (HB.out.below B0.out.1)
  go_wp2_with (fail)
  clear q0 q1 q2 q3 q4 q5 q6 q7
  refine (c_octet_Num b B cb c.kind _ H0.out).mono ?_
  rintro e w3 ⟨v3, rfl, own3, hb3⟩
  obtain ⟨l3, hl3⟩ : ∃ l, l = b ++ num c.kind := ⟨_, rfl⟩
  have ln3 : l3.length ≤ b.length + 7 := by rw [hl3, List.length_append]; omega
  rw [← hl3] at own3
  obtain ⟨A3, c3, rfl, in3⟩ := In.of_own bc_len own3 (by omega)
  have O3 := Lib.hid (own_base own3 B0.out.1.size)
  have I3 := Lib.hid in3
  replace B0 := Lib.hid (B0.out.step hb3)
  have L3 := Lib.hid hl3
  clear own3 hb3 in3 hl3
  obtain ⟨q0, q1, q2, q3, q4, q5, q6, q7⟩ := cmd_cells hw.out B0.out.2
  have hn1 := (num_len c.dev).2
  have hn2 := (num_len c.req).2
  have hn3 := (num_len c.id).2
  have hn4 := (num_len c.base).2
  have hn5 := (num_len (c.mask : Int)).2
  have hn6 := patchB_len c.p
  have hn7 := putB_len c.f
  obtain ⟨l4, hl4⟩ : ∃ l4, l4 = l3 ++ num c.dev := ⟨_, rfl⟩
  have l4n : l4.length ≤ b.length + 14 := by rw [hl4]; simp only [List.length_append]; omega
  have L4 := Lib.hid hl4
  obtain ⟨l5, hl5⟩ : ∃ l5, l5 = l4 ++ num c.req := ⟨_, rfl⟩
  have l5n : l5.length ≤ b.length + 21 := by rw [hl5]; simp only [List.length_append]; omega
  have L5 := Lib.hid hl5
  have H : Hid (l5 = b ++ cmdB c) := by show _ = _; rw [hl5, hl4, L3.out, cmdB_ok HOK.out, cmdT_4 HKK.out]; simp
  clear HOK HKK hl4 hl5
  go_wp2_with (fail)
  clear q0 q1 q2 q3 q4 q5 q6 q7
  have OB := Lib.hid O3.out
  have Bw := Lib.hid B0.out.2
  have hbw := B0.out.1.size
  refine wp_region_rel [Sp.own w.heap.size 5 1 bc l3, Sp.eq (.pointer (some ⟨w.heap.size, 30, none⟩)), Sp.eq (.int .i64 c.dev), Sp.own w.heap.size 5 1 bc l4, Sp.eq (.pointer (some ⟨w.heap.size, 31, none⟩)), Sp.eq (.int .i64 c.req), Sp.own w.heap.size 5 1 bc l5, Sp.own w.heap.size 5 1 bc l5] 60 (by kernel_rfl) (by kernel_rfl) rfl rfl ?_ ?_
  · refine ⟨?_, ?_, ?_, ?_, ?_, ?_, ?_, ?_, trivial⟩
    all_goals (intro u w2 hb2 hd; simp [Deps, Region.binds, Sp.own_holds, Sp.eq_holds] at hd; simp only [putDeps, dstOf, Region.binds])
    case refine_1 =>
      go_wp2_with (fail); exact RelEnd.mk rfl (Below.refl _ _) (own_below OB.out hb2)
    case refine_2 =>
      go_wp2_with (fail); exact RelEnd.mk rfl (Below.refl _ _) rfl
    case refine_3 =>
      have q : w2.cell? ⟨w.heap.size, 30, none⟩ = some (.int .i64 c.dev) := (Bw.out.below hb2 Bw.out.lt).cell (Cmd.getI hw.out 0 (by omega))
      go_wp2_with (fail); exact RelEnd.mk rfl (Below.refl _ _) rfl
    case refine_4 =>
      have hx := hd.1
      obtain ⟨A4, c4, e4, in4⟩ := In.of_own bc_len hx (by omega)
      go_wp2_with (go_at_call 37; refine (c_octet_Num l3 A4 c4 _ _ in4).mono ?_; rintro e w3 ⟨v3, rfl, own3, hb3⟩)
      rw [← L4.out] at own3
      exact RelEnd.mk rfl hb3 (own_base own3 (Nat.le_trans hbw hb2.size))
    case refine_5 =>
      go_wp2_with (fail); exact RelEnd.mk rfl (Below.refl _ _) rfl
    case refine_6 =>
      have q : w2.cell? ⟨w.heap.size, 31, none⟩ = some (.int .i64 c.req) := (Bw.out.below hb2 Bw.out.lt).cell (Cmd.getI hw.out 1 (by omega))
      go_wp2_with (fail); exact RelEnd.mk rfl (Below.refl _ _) rfl
    case refine_7 =>
      have hx := hd.1
      obtain ⟨A4, c4, e4, in4⟩ := In.of_own bc_len hx (by omega)
      go_wp2_with (go_at_call 37; refine (c_octet_Num l4 A4 c4 _ _ in4).mono ?_; rintro e w3 ⟨v3, rfl, own3, hb3⟩)
      rw [← L5.out] at own3
      exact RelEnd.mk rfl hb3 (own_base own3 (Nat.le_trans hbw hb2.size))
    case refine_8 =>
      go_wp2_with (fail); exact RelEnd.mk rfl (Below.refl _ _) hd.1
  · intro u w2 hb2 hold
    simp only [RelHold, Sp.eq_holds, Sp.own_holds] at hold
    obtain ⟨-, -, -, -, -, -, -, hE, -⟩ := hold
    simp only [putAll, Act.put, Nat.reduceAdd, List.setIfInBounds_toArray, List.set_cons_zero, List.set_cons_succ]
    obtain ⟨A5, c5, e5, -⟩ := In.of_own bc_len hE (by omega)
    replace B0 := Lib.hid (B0.out.step hb2)
    replace OB := Lib.hid hE
    rw [e5] at OB ⊢
    clear hE e5 O3 I3 Bw hbw
    obtain ⟨q0, q1, q2, q3, q4, q5, q6, q7⟩ := cmd_cells hw.out B0.out.2
    have B5 := B0
    go_wp2_with (fail)
    go_ret
    exact RetS.of OB.out (Nat.le_refl _) H.out B5.out.1
theorem c_cmdwire_Put (b : List UInt8) (B : Option Addr) (cb : Nat) (c : Cmd) (A : Option Addr) (n : Nat) (w : World) (hb : InB w B cb b) (hbl : b.length ≤ 800000) (hT : Tab w) (hwf : c.wf) (hr : c.rng) (hI : InN w A n c.f) (hs : ∀ x ∈ c.f, x.v.s.length ≤ 4294967000) (hse : ∀ x ∈ c.e.p.f, x.s.length ≤ 4294967000) (hsp : ∀ x ∈ c.p.f, x.s.length ≤ 4294967000) (hme : c.e.p.mask < 4294967296) (hmp : c.p.mask < 4294967296) (hm : c.mask < 4294967296) :
    Calls Tryd.prog 11 #[.slice B b.length cb, .agg (c.arr A n)] w (RetS 1 bc 5 w (b ++ cmdB c)) := by
  cases hok : c.ok
  case false => exact cmdwire_Put_bad b B cb c A n w hb hbl hT hwf hr hI hs hse hsp hme hmp hm hok
  case true =>
    have hk := Cmd.ok_kind hok
    rcases (show c.kind = 1 ∨ c.kind = 2 ∨ c.kind = 3 ∨ c.kind = 4 ∨ c.kind = 5 by omega) with h | h | h | h | h
    · exact cmdwire_Put_1 b B cb c A n w hb hbl hT hwf hr hI hs hse hsp hme hmp hm hok h
    · exact cmdwire_Put_2 b B cb c A n w hb hbl hT hwf hr hI hs hse hsp hme hmp hm hok h
    · exact cmdwire_Put_3 b B cb c A n w hb hbl hT hwf hr hI hs hse hsp hme hmp hm hok h
    · exact cmdwire_Put_4 b B cb c A n w hb hbl hT hwf hr hI hs hse hsp hme hmp hm hok h
    · exact cmdwire_Put_5 b B cb c A n w hb hbl hT hwf hr hI hs hse hsp hme hmp hm hok h
end Go.Proofs.YtjhndilflcigiaaDoor
