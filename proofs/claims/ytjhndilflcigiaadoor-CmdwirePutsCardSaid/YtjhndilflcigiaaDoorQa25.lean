/-
  The walk of the reference's Put of commands. (Printed by gen33e.py.)
-/
import Derived.Test.YtjhndilflcigiaaDoorQa24
import Derived.Test.YtjhndilflcigiaaDoorRows
import Derived.WalkKit
import Derived.WalkSpells
import Derived.WalkLawsBesides
import Derived.Lib.Hide
import Derived.Deep.QuietTactic
import Derived.BigQuiet
import Derived.Maps.AppendAt
import Derived.WalkSmall
import Derived.ProofKit
import Derived.OpenShut
import Derived.JoinedCond
import Derived.Deep.Slices
import Derived.Deep.Fields
import Derived.Carry
import Derived.Deep.AppendSrc
import Derived.Lib.AppendStr
import Derived.Laws.BytesArg
import Derived.Test.YtjhndilflcigiaaDoorProg
import Derived.Shelf.Spec.TrailingZeros
import Derived.RangeFuncNested
import Derived.RangeFuncBound
import Derived.RangeFuncCalls
import Derived.RangeFuncLeaves
import Derived.Shelf.Abstract
import Derived.Shelf.RegionOpen
import Derived.OwnWalkIn
import Derived.TacticsInMore
import Derived.LoopNIn
import Derived.LoopIn
import Derived.Test.YtjhndilflcigiaaDoorTie
import Derived.Lib.LaidTab
import Derived.LaidMore
import Derived.SevenTiedAt
import Derived.Test.YtjhndilflcigiaaDoorCards
import Derived.Laws.Tables
import Derived.Laws.Rows
import Derived.ChangeKeysEq
import Derived.Laws.StructEq
import Derived.Deep.CutBlock
import Derived.Deep.DeepCutAuto
import Derived.Laws.CopyOwn
import Derived.Outline
import Derived.IntWalk
import Derived.Lib.EndianBits
import Derived.StillTail
import Derived.Lib.AppendZeros
import Derived.Deep.Quiet
namespace Go.Proofs.YtjhndilflcigiaaDoor
open Go.RowKit

set_option maxHeartbeats 4000000 in
set_option maxRecDepth 4000 in
theorem ref33_Put_bad (c : Cmd) (A : Option Addr) (n : Nat) (w : World) (hwf : c.wf) (hr : c.rng) (hI : InN w A n c.f) (hs : ∀ x ∈ c.f, x.v.s.length ≤ 4294967000) (hse : ∀ x ∈ c.e.p.f, x.s.length ≤ 4294967000) (hsp : ∀ x ∈ c.p.f, x.s.length ≤ 4294967000) (hme : c.e.p.mask < 4294967296) (hmp : c.p.mask < 4294967296) (hm : c.mask < 4294967296) (hok : c.ok = false) :
    Calls Tryd.prog 12 #[.agg (c.arr A n)] w (RetV w (.string (str (cmdB c)))) := by
  have Hs := Lib.hid hs
  have Hse := Lib.hid hse
  have Hsp := Lib.hid hsp
  have HI := Lib.hid hI
  have hw := Lib.hid hwf
  have HR := Lib.hid hr
  have HOK := Lib.hid hok
  have B0 := Lib.hid (At.new w 32 (c.arr A n))
  clear hs hse hsp hI hwf hr hok
  have H : Hid (([] : List UInt8) = cmdB c) := by show _ = _; rw [cmdB_bad HOK.out]
  go_enter Tryd.func12, Tryd.ntmps12
  go_wp2_with (with_reducible refine stop_load 32 (.tmp 1) rfl rfl ?_)
  refine Stop.mk (wpList_loadB rfl _ _ rfl w.heap.size rfl _ B0.out.2 strCm (Cmd.arr_size hw.out) ?_)
  go_wp2_with (fail)
  refine (c_ref32_Check c A n _ hw.out HR.out (HI.out.below B0.out.1) Hs.out Hse.out Hsp.out hme hmp hm).mono ?_
  rintro e w1 ⟨rfl, hb1⟩
  replace B0 := Lib.hid (B0.out.step hb1)
  rw [HOK.out]
  clear hb1
  go_wp2_with (fail)
  go_ret
  exact RetV.str H.out B0.out.1
set_option maxHeartbeats 4000000 in
set_option maxRecDepth 4000 in
theorem ref33_Put_1 (c : Cmd) (A : Option Addr) (n : Nat) (w : World) (hwf : c.wf) (hr : c.rng) (hI : InN w A n c.f) (hs : ∀ x ∈ c.f, x.v.s.length ≤ 4294967000) (hse : ∀ x ∈ c.e.p.f, x.s.length ≤ 4294967000) (hsp : ∀ x ∈ c.p.f, x.s.length ≤ 4294967000) (hme : c.e.p.mask < 4294967296) (hmp : c.p.mask < 4294967296) (hm : c.mask < 4294967296) (hok : c.ok = true) (hk : c.kind = 1) :
    Calls Tryd.prog 12 #[.agg (c.arr A n)] w (RetV w (.string (str (cmdB c)))) := by
  have Hs := Lib.hid hs
  have Hse := Lib.hid hse
  have Hsp := Lib.hid hsp
  have HI := Lib.hid hI
  have hw := Lib.hid hwf
  have HR := Lib.hid hr
  have HOK := Lib.hid hok
  have B0 := Lib.hid (At.new w 32 (c.arr A n))
  clear hs hse hsp hI hwf hr hok
  have H : Hid (num c.kind ++ editB c.e = cmdB c) := by show _ = _; rw [cmdB_ok HOK.out, cmdT_1 hk]
  have j1 : (c.kind == 1) = true := by rw [hk]; rfl
  clear hk
  go_enter Tryd.func12, Tryd.ntmps12
  go_wp2_with (with_reducible refine stop_load 32 (.tmp 1) rfl rfl ?_)
  refine Stop.mk (wpList_loadB rfl _ _ rfl w.heap.size rfl _ B0.out.2 strCm (Cmd.arr_size hw.out) ?_)
  go_wp2_with (fail)
  refine (c_ref32_Check c A n _ hw.out HR.out (HI.out.below B0.out.1) Hs.out Hse.out Hsp.out hme hmp hm).mono ?_
  rintro e w1 ⟨rfl, hb1⟩
  replace B0 := Lib.hid (B0.out.step hb1)
  rw [HOK.out]
  clear hb1
  obtain ⟨q0, q1, q2, q3, q4, q5, q6, q7⟩ := cmd_cells hw.out B0.out.2
  have hn := (num_len c.kind).2
  go_wp2_with (fail)
  refine (c_ref01_Num _ _).mono ?_
  rintro e w2 ⟨rfl, hb2⟩
  replace B0 := Lib.hid (B0.out.step hb2)
  clear hb2 q0 q1 q2 q3 q4 q5 q6 q7
  obtain ⟨q0, q1, q2, q3, q4, q5, q6, q7⟩ := cmd_cells hw.out B0.out.2
  have he := editB_len' c.e
  have bv : ¬ 9223372036854775807 < (num c.kind).length + (editB c.e).length := by omega
  go_wp2_with (with_reducible refine stop_loadG 29 _ rfl ?_)
  refine Stop.mk (wpList_loadAtG (by rfl) _ _ rfl w.heap.size 1 rfl c.e.arr (cmd_edit hw.out B0.out.2) strE (by rw [Edit.arr_size, hw.out.e]) ?_)
  go_wp2_with (fail)
  refine (c_ref19_Put c.e _ hw.out.e Hse.out hme).mono ?_
  rintro e w2 ⟨rfl, hb2⟩
  replace B0 := Lib.hid (B0.out.step hb2)
  clear hb2 q0 q1 q2 q3 q4 q5 q6 q7
  obtain ⟨q0, q1, q2, q3, q4, q5, q6, q7⟩ := cmd_cells hw.out B0.out.2
  go_wp2_with (fail)
  go_ret
  exact RetV.str H.out B0.out.1
set_option maxHeartbeats 4000000 in
set_option maxRecDepth 4000 in
theorem ref33_Put_5 (c : Cmd) (A : Option Addr) (n : Nat) (w : World) (hwf : c.wf) (hr : c.rng) (hI : InN w A n c.f) (hs : ∀ x ∈ c.f, x.v.s.length ≤ 4294967000) (hse : ∀ x ∈ c.e.p.f, x.s.length ≤ 4294967000) (hsp : ∀ x ∈ c.p.f, x.s.length ≤ 4294967000) (hme : c.e.p.mask < 4294967296) (hmp : c.p.mask < 4294967296) (hm : c.mask < 4294967296) (hok : c.ok = true) (hk : c.kind = 5) :
    Calls Tryd.prog 12 #[.agg (c.arr A n)] w (RetV w (.string (str (cmdB c)))) := by
  have Hs := Lib.hid hs
  have Hse := Lib.hid hse
  have Hsp := Lib.hid hsp
  have HI := Lib.hid hI
  have hw := Lib.hid hwf
  have HR := Lib.hid hr
  have HOK := Lib.hid hok
  have B0 := Lib.hid (At.new w 32 (c.arr A n))
  clear hs hse hsp hI hwf hr hok
  have H : Hid (num c.kind ++ num c.keep = cmdB c) := by show _ = _; rw [cmdB_ok HOK.out, cmdT_5 hk]
  have j1 : (c.kind == 1) = false := by rw [hk]; rfl
  have j5 : (c.kind == 5) = true := by rw [hk]; rfl
  clear hk
  go_enter Tryd.func12, Tryd.ntmps12
  go_wp2_with (with_reducible refine stop_load 32 (.tmp 1) rfl rfl ?_)
  refine Stop.mk (wpList_loadB rfl _ _ rfl w.heap.size rfl _ B0.out.2 strCm (Cmd.arr_size hw.out) ?_)
  go_wp2_with (fail)
  refine (c_ref32_Check c A n _ hw.out HR.out (HI.out.below B0.out.1) Hs.out Hse.out Hsp.out hme hmp hm).mono ?_
  rintro e w1 ⟨rfl, hb1⟩
  replace B0 := Lib.hid (B0.out.step hb1)
  rw [HOK.out]
  clear hb1
  obtain ⟨q0, q1, q2, q3, q4, q5, q6, q7⟩ := cmd_cells hw.out B0.out.2
  have hn := (num_len c.kind).2
  go_wp2_with (fail)
  refine (c_ref01_Num _ _).mono ?_
  rintro e w2 ⟨rfl, hb2⟩
  replace B0 := Lib.hid (B0.out.step hb2)
  clear hb2 q0 q1 q2 q3 q4 q5 q6 q7
  obtain ⟨q0, q1, q2, q3, q4, q5, q6, q7⟩ := cmd_cells hw.out B0.out.2
  have he := (num_len c.keep).2
  have bv : ¬ 9223372036854775807 < (num c.kind).length + (num c.keep).length := by omega
  go_wp2_with (fail)
  refine (c_ref01_Num _ _).mono ?_
  rintro e w2 ⟨rfl, hb2⟩
  replace B0 := Lib.hid (B0.out.step hb2)
  clear hb2 q0 q1 q2 q3 q4 q5 q6 q7
  obtain ⟨q0, q1, q2, q3, q4, q5, q6, q7⟩ := cmd_cells hw.out B0.out.2
  go_wp2_with (fail)
  go_ret
  exact RetV.str H.out B0.out.1
set_option maxHeartbeats 4000000 in
set_option maxRecDepth 4000 in
theorem ref33_Put_2 (c : Cmd) (A : Option Addr) (n : Nat) (w : World) (hwf : c.wf) (hr : c.rng) (hI : InN w A n c.f) (hs : ∀ x ∈ c.f, x.v.s.length ≤ 4294967000) (hse : ∀ x ∈ c.e.p.f, x.s.length ≤ 4294967000) (hsp : ∀ x ∈ c.p.f, x.s.length ≤ 4294967000) (hme : c.e.p.mask < 4294967296) (hmp : c.p.mask < 4294967296) (hm : c.mask < 4294967296) (hok : c.ok = true) (hk : c.kind = 2) :
    Calls Tryd.prog 12 #[.agg (c.arr A n)] w (RetV w (.string (str (cmdB c)))) := by
  have Hs := Lib.hid hs
  have Hse := Lib.hid hse
  have Hsp := Lib.hid hsp
  have HI := Lib.hid hI
  have hw := Lib.hid hwf
  have HR := Lib.hid hr
  have HOK := Lib.hid hok
  have B0 := Lib.hid (At.new w 32 (c.arr A n))
  clear hs hse hsp hI hwf hr hok
  have j1 : (c.kind == 1) = false := by rw [hk]; rfl
  have j5 : (c.kind == 5) = false := by rw [hk]; rfl
  have j2 : (c.kind == 2) = true := by rw [hk]; rfl
  have j3 : (c.kind == 3) = false := by rw [hk]; rfl
  have hn1 := (num_len c.dev).2
  have hn2 := (num_len c.req).2
  have hn3 := (num_len c.id).2
  have hn4 := (num_len c.base).2
  have hn5 := (num_len (c.mask : Int)).2
  have hn6 := patchB_len c.p
  have hn7 := putB_len c.f
  have hn := (num_len c.kind).2
  obtain ⟨l4, hl4⟩ : ∃ l4, l4 = num c.kind ++ num c.dev := ⟨_, rfl⟩
  have l4n : l4.length ≤ 14 := by rw [hl4]; simp only [List.length_append]; omega
  have L4 := Lib.hid hl4
  obtain ⟨l5, hl5⟩ : ∃ l5, l5 = l4 ++ num c.req := ⟨_, rfl⟩
  have l5n : l5.length ≤ 21 := by rw [hl5]; simp only [List.length_append]; omega
  have L5 := Lib.hid hl5
  obtain ⟨l6, hl6⟩ : ∃ l6, l6 = l5 ++ num c.id := ⟨_, rfl⟩
  have l6n : l6.length ≤ 28 := by rw [hl6]; simp only [List.length_append]; omega
  have L6 := Lib.hid hl6
  obtain ⟨l7, hl7⟩ : ∃ l7, l7 = l6 ++ num c.base := ⟨_, rfl⟩
  have l7n : l7.length ≤ 35 := by rw [hl7]; simp only [List.length_append]; omega
  have L7 := Lib.hid hl7
  obtain ⟨l8, hl8⟩ : ∃ l8, l8 = l7 ++ patchB c.p := ⟨_, rfl⟩
  have l8n : l8.length ≤ 1000 := by rw [hl8]; simp only [List.length_append]; omega
  have L8 := Lib.hid hl8
  have H : Hid (l8 = cmdB c) := by show _ = _; rw [hl8, hl7, hl6, hl5, hl4, cmdB_ok HOK.out, cmdT_2 hk]; simp
  clear hk hn hl4 hl5 hl6 hl7 hl8
  go_enter Tryd.func12, Tryd.ntmps12
  go_wp2_with (with_reducible refine stop_load 32 (.tmp 1) rfl rfl ?_)
  refine Stop.mk (wpList_loadB rfl _ _ rfl w.heap.size rfl _ B0.out.2 strCm (Cmd.arr_size hw.out) ?_)
  go_wp2_with (fail)
  refine (c_ref32_Check c A n _ hw.out HR.out (HI.out.below B0.out.1) Hs.out Hse.out Hsp.out hme hmp hm).mono ?_
  rintro e w1 ⟨rfl, hb1⟩
  replace B0 := Lib.hid (B0.out.step hb1)
  rw [HOK.out]
  clear hb1
  obtain ⟨q0, q1, q2, q3, q4, q5, q6, q7⟩ := cmd_cells hw.out B0.out.2
  have hn := (num_len c.kind).2
  go_wp2_with (fail)
  refine (c_ref01_Num _ _).mono ?_
  rintro e w2 ⟨rfl, hb2⟩
  replace B0 := Lib.hid (B0.out.step hb2)
  clear hb2 q0 q1 q2 q3 q4 q5 q6 q7
  obtain ⟨q0, q1, q2, q3, q4, q5, q6, q7⟩ := cmd_cells hw.out B0.out.2
  go_wp2_with (fail)
  clear q0 q1 q2 q3 q4 q5 q6 q7
  have Bw := Lib.hid B0.out.2
  have HIw := Lib.hid (HI.out.below B0.out.1)
  refine wp_region_rel [Sp.eq (.string (str (num c.kind))), Sp.eq (.pointer (some ⟨w.heap.size, 30, none⟩)), Sp.eq (.int .i64 c.dev), Sp.eq (.string (str (num c.dev))), Sp.eq (.string (str l4)), Sp.eq (.pointer (some ⟨w.heap.size, 31, none⟩)), Sp.eq (.int .i64 c.req), Sp.eq (.string (str (num c.req))), Sp.eq (.string (str l5)), Sp.eq (.string (str l5))] 65 (by kernel_rfl) (by kernel_rfl) rfl rfl ?_ ?_
  · refine ⟨?_, ?_, ?_, ?_, ?_, ?_, ?_, ?_, ?_, ?_, trivial⟩
    all_goals (intro u W2 hb2 hd; simp [Deps, Region.binds, Sp.eq_holds] at hd; simp only [putDeps, dstOf, Region.binds])
    case refine_1 =>
      go_wp2_with (fail); exact RelEnd.mk rfl (Below.refl _ _) rfl
    case refine_2 =>
      go_wp2_with (fail); exact RelEnd.mk rfl (Below.refl _ _) rfl
    case refine_3 =>
      have q : World.cell? W2 ⟨w.heap.size, 30, none⟩ = some (.int .i64 c.dev) := (Bw.out.below hb2 Bw.out.lt).cell (Cmd.getI hw.out 0 (by omega))
      go_wp2_with (fail); exact RelEnd.mk rfl (Below.refl _ _) rfl
    case refine_4 =>
      go_wp2_with (go_at_call 41; refine (c_ref01_Num _ _).mono ?_; rintro e3 W3 ⟨rfl, hb3⟩)
      exact RelEnd.mk rfl hb3 rfl
    case refine_5 =>
      have bv : ¬ 9223372036854775807 < (num c.kind).length + (num c.dev).length := by omega
      go_wp2_with (fail)
      exact RelEnd.mk rfl (Below.refl _ _) (by show _ = _; rw [L4.out]; rfl)
    case refine_6 =>
      go_wp2_with (fail); exact RelEnd.mk rfl (Below.refl _ _) rfl
    case refine_7 =>
      have q : World.cell? W2 ⟨w.heap.size, 31, none⟩ = some (.int .i64 c.req) := (Bw.out.below hb2 Bw.out.lt).cell (Cmd.getI hw.out 1 (by omega))
      go_wp2_with (fail); exact RelEnd.mk rfl (Below.refl _ _) rfl
    case refine_8 =>
      go_wp2_with (go_at_call 41; refine (c_ref01_Num _ _).mono ?_; rintro e3 W3 ⟨rfl, hb3⟩)
      exact RelEnd.mk rfl hb3 rfl
    case refine_9 =>
      have bv : ¬ 9223372036854775807 < l4.length + (num c.req).length := by omega
      go_wp2_with (fail)
      exact RelEnd.mk rfl (Below.refl _ _) (by show _ = _; rw [L5.out]; rfl)
    case refine_10 =>
      go_wp2_with (fail); exact RelEnd.mk rfl (Below.refl _ _) rfl
  · intro u W2 hb2 hold
    simp only [RelHold, Sp.eq_holds, Nat.reduceAdd] at hold
    obtain ⟨-, -, -, -, -, -, -, -, -, hE, -⟩ := hold
    simp only [putAll, Act.put, Nat.reduceAdd, List.setIfInBounds_toArray, List.set_cons_zero, List.set_cons_succ]
    have e4 := hE
    replace B0 := Lib.hid (B0.out.step hb2)
    rw [e4]
    clear hE e4 Bw HIw hb2
    obtain ⟨q0, q1, q2, q3, q4, q5, q6, q7⟩ := cmd_cells hw.out B0.out.2
    go_wp2_with (fail)
    clear q0 q1 q2 q3 q4 q5 q6 q7
    have Bw := Lib.hid B0.out.2
    have HIw := Lib.hid (HI.out.below B0.out.1)
    refine wp_region_rel [Sp.eq (.string (str l5)), Sp.eq (.pointer (some ⟨w.heap.size, 32, none⟩)), Sp.eq (.int .i64 c.id), Sp.eq (.string (str (num c.id))), Sp.eq (.string (str l6)), Sp.eq (.pointer (some ⟨w.heap.size, 33, none⟩)), Sp.eq (.int .i64 c.base), Sp.eq (.string (str (num c.base))), Sp.eq (.string (str l7)), Sp.eq (.pointer (some ⟨w.heap.size, 35, none⟩)), Sp.eq (.agg c.p.arr), Sp.eq (.string (str (patchB c.p))), Sp.eq (.string (str l8)), Sp.eq (.string (str l8))] 65 (by kernel_rfl) (by kernel_rfl) rfl rfl ?_ ?_
    · refine ⟨?_, ?_, ?_, ?_, ?_, ?_, ?_, ?_, ?_, ?_, ?_, ?_, ?_, ?_, trivial⟩
      all_goals (intro u W2 hb2 hd; simp [Deps, Region.binds, Sp.eq_holds] at hd; simp only [putDeps, dstOf, Region.binds])
      case refine_1 =>
        go_wp2_with (fail); exact RelEnd.mk rfl (Below.refl _ _) rfl
      case refine_2 =>
        go_wp2_with (fail); exact RelEnd.mk rfl (Below.refl _ _) rfl
      case refine_3 =>
        have q : World.cell? W2 ⟨w.heap.size, 32, none⟩ = some (.int .i64 c.id) := (Bw.out.below hb2 Bw.out.lt).cell (Cmd.getI hw.out 2 (by omega))
        go_wp2_with (fail); exact RelEnd.mk rfl (Below.refl _ _) rfl
      case refine_4 =>
        go_wp2_with (go_at_call 41; refine (c_ref01_Num _ _).mono ?_; rintro e3 W3 ⟨rfl, hb3⟩)
        exact RelEnd.mk rfl hb3 rfl
      case refine_5 =>
        have bv : ¬ 9223372036854775807 < l5.length + (num c.id).length := by omega
        go_wp2_with (fail)
        exact RelEnd.mk rfl (Below.refl _ _) (by show _ = _; rw [L6.out]; rfl)
      case refine_6 =>
        go_wp2_with (fail); exact RelEnd.mk rfl (Below.refl _ _) rfl
      case refine_7 =>
        have q : World.cell? W2 ⟨w.heap.size, 33, none⟩ = some (.int .i64 c.base) := (Bw.out.below hb2 Bw.out.lt).cell (Cmd.getI hw.out 3 (by omega))
        go_wp2_with (fail); exact RelEnd.mk rfl (Below.refl _ _) rfl
      case refine_8 =>
        go_wp2_with (go_at_call 41; refine (c_ref01_Num _ _).mono ?_; rintro e3 W3 ⟨rfl, hb3⟩)
        exact RelEnd.mk rfl hb3 rfl
      case refine_9 =>
        have bv : ¬ 9223372036854775807 < l6.length + (num c.base).length := by omega
        go_wp2_with (fail)
        exact RelEnd.mk rfl (Below.refl _ _) (by show _ = _; rw [L7.out]; rfl)
      case refine_10 =>
        go_wp2_with (fail); exact RelEnd.mk rfl (Below.refl _ _) rfl
      case refine_11 =>
        go_wp2_with (with_reducible refine stop_loadG 27 _ rfl ?_)
        refine Stop.mk (wpList_loadAtG (by simp [Region.wanted]) _ _ rfl w.heap.size 35 rfl c.p.arr (cmd_patch hw.out (Bw.out.below hb2 Bw.out.lt)) strP (by rw [Patch.arr_size, hw.out.p]) ?_)
        go_wp2_with (fail); exact RelEnd.mk rfl (Below.refl _ _) rfl
      case refine_12 =>
        go_wp2_with (go_at_call 43; refine (c_ref08_PutPatch c.p _ hmp hw.out.p Hsp.out).mono ?_; rintro e3 W3 ⟨rfl, hb3⟩)
        exact RelEnd.mk rfl hb3 rfl
      case refine_13 =>
        have bv : ¬ 9223372036854775807 < l7.length + (patchB c.p).length := by omega
        go_wp2_with (fail)
        exact RelEnd.mk rfl (Below.refl _ _) (by show _ = _; rw [L8.out]; rfl)
      case refine_14 =>
        go_wp2_with (fail); exact RelEnd.mk rfl (Below.refl _ _) rfl
    · intro u W2 hb2 hold
      simp only [RelHold, Sp.eq_holds, Nat.reduceAdd] at hold
      obtain ⟨-, -, -, -, -, -, -, -, -, -, -, -, -, hE, -⟩ := hold
      simp only [putAll, Act.put, Nat.reduceAdd, List.setIfInBounds_toArray, List.set_cons_zero, List.set_cons_succ]
      have e4 := hE
      replace B0 := Lib.hid (B0.out.step hb2)
      rw [e4]
      clear hE e4 Bw HIw hb2
      obtain ⟨q0, q1, q2, q3, q4, q5, q6, q7⟩ := cmd_cells hw.out B0.out.2
      go_wp2_with (fail)
      go_ret
      exact RetV.str H.out B0.out.1
set_option maxHeartbeats 4000000 in
set_option maxRecDepth 4000 in
theorem ref33_Put_3 (c : Cmd) (A : Option Addr) (n : Nat) (w : World) (hwf : c.wf) (hr : c.rng) (hI : InN w A n c.f) (hs : ∀ x ∈ c.f, x.v.s.length ≤ 4294967000) (hse : ∀ x ∈ c.e.p.f, x.s.length ≤ 4294967000) (hsp : ∀ x ∈ c.p.f, x.s.length ≤ 4294967000) (hme : c.e.p.mask < 4294967296) (hmp : c.p.mask < 4294967296) (hm : c.mask < 4294967296) (hok : c.ok = true) (hk : c.kind = 3) :
    Calls Tryd.prog 12 #[.agg (c.arr A n)] w (RetV w (.string (str (cmdB c)))) := by
  have Hs := Lib.hid hs
  have Hse := Lib.hid hse
  have Hsp := Lib.hid hsp
  have HI := Lib.hid hI
  have hw := Lib.hid hwf
  have HR := Lib.hid hr
  have HOK := Lib.hid hok
  have B0 := Lib.hid (At.new w 32 (c.arr A n))
  clear hs hse hsp hI hwf hr hok
  have j1 : (c.kind == 1) = false := by rw [hk]; rfl
  have j5 : (c.kind == 5) = false := by rw [hk]; rfl
  have j2 : (c.kind == 2) = false := by rw [hk]; rfl
  have j3 : (c.kind == 3) = true := by rw [hk]; rfl
  have hn1 := (num_len c.dev).2
  have hn2 := (num_len c.req).2
  have hn3 := (num_len c.id).2
  have hn4 := (num_len c.base).2
  have hn5 := (num_len (c.mask : Int)).2
  have hn6 := patchB_len c.p
  have hn7 := putB_len c.f
  have hn := (num_len c.kind).2
  obtain ⟨l4, hl4⟩ : ∃ l4, l4 = num c.kind ++ num c.dev := ⟨_, rfl⟩
  have l4n : l4.length ≤ 14 := by rw [hl4]; simp only [List.length_append]; omega
  have L4 := Lib.hid hl4
  obtain ⟨l5, hl5⟩ : ∃ l5, l5 = l4 ++ num c.req := ⟨_, rfl⟩
  have l5n : l5.length ≤ 21 := by rw [hl5]; simp only [List.length_append]; omega
  have L5 := Lib.hid hl5
  obtain ⟨l6, hl6⟩ : ∃ l6, l6 = l5 ++ putB c.f := ⟨_, rfl⟩
  have l6n : l6.length ≤ 1700 := by rw [hl6]; simp only [List.length_append]; omega
  have L6 := Lib.hid hl6
  obtain ⟨l7, hl7⟩ : ∃ l7, l7 = l6 ++ num c.mask := ⟨_, rfl⟩
  have l7n : l7.length ≤ 1707 := by rw [hl7]; simp only [List.length_append]; omega
  have L7 := Lib.hid hl7
  have H : Hid (l7 = cmdB c) := by show _ = _; rw [hl7, hl6, hl5, hl4, cmdB_ok HOK.out, cmdT_3 hk]; simp
  clear hk hn hl4 hl5 hl6 hl7
  go_enter Tryd.func12, Tryd.ntmps12
  go_wp2_with (with_reducible refine stop_load 32 (.tmp 1) rfl rfl ?_)
  refine Stop.mk (wpList_loadB rfl _ _ rfl w.heap.size rfl _ B0.out.2 strCm (Cmd.arr_size hw.out) ?_)
  go_wp2_with (fail)
  refine (c_ref32_Check c A n _ hw.out HR.out (HI.out.below B0.out.1) Hs.out Hse.out Hsp.out hme hmp hm).mono ?_
  rintro e w1 ⟨rfl, hb1⟩
  replace B0 := Lib.hid (B0.out.step hb1)
  rw [HOK.out]
  clear hb1
  obtain ⟨q0, q1, q2, q3, q4, q5, q6, q7⟩ := cmd_cells hw.out B0.out.2
  have hn := (num_len c.kind).2
  go_wp2_with (fail)
  refine (c_ref01_Num _ _).mono ?_
  rintro e w2 ⟨rfl, hb2⟩
  replace B0 := Lib.hid (B0.out.step hb2)
  clear hb2 q0 q1 q2 q3 q4 q5 q6 q7
  obtain ⟨q0, q1, q2, q3, q4, q5, q6, q7⟩ := cmd_cells hw.out B0.out.2
  go_wp2_with (fail)
  clear q0 q1 q2 q3 q4 q5 q6 q7
  have Bw := Lib.hid B0.out.2
  have HIw := Lib.hid (HI.out.below B0.out.1)
  refine wp_region_rel [Sp.eq (.string (str (num c.kind))), Sp.eq (.pointer (some ⟨w.heap.size, 30, none⟩)), Sp.eq (.int .i64 c.dev), Sp.eq (.string (str (num c.dev))), Sp.eq (.string (str l4)), Sp.eq (.pointer (some ⟨w.heap.size, 31, none⟩)), Sp.eq (.int .i64 c.req), Sp.eq (.string (str (num c.req))), Sp.eq (.string (str l5)), Sp.eq (.string (str l5))] 65 (by kernel_rfl) (by kernel_rfl) rfl rfl ?_ ?_
  · refine ⟨?_, ?_, ?_, ?_, ?_, ?_, ?_, ?_, ?_, ?_, trivial⟩
    all_goals (intro u W2 hb2 hd; simp [Deps, Region.binds, Sp.eq_holds] at hd; simp only [putDeps, dstOf, Region.binds])
    case refine_1 =>
      go_wp2_with (fail); exact RelEnd.mk rfl (Below.refl _ _) rfl
    case refine_2 =>
      go_wp2_with (fail); exact RelEnd.mk rfl (Below.refl _ _) rfl
    case refine_3 =>
      have q : World.cell? W2 ⟨w.heap.size, 30, none⟩ = some (.int .i64 c.dev) := (Bw.out.below hb2 Bw.out.lt).cell (Cmd.getI hw.out 0 (by omega))
      go_wp2_with (fail); exact RelEnd.mk rfl (Below.refl _ _) rfl
    case refine_4 =>
      go_wp2_with (go_at_call 41; refine (c_ref01_Num _ _).mono ?_; rintro e3 W3 ⟨rfl, hb3⟩)
      exact RelEnd.mk rfl hb3 rfl
    case refine_5 =>
      have bv : ¬ 9223372036854775807 < (num c.kind).length + (num c.dev).length := by omega
      go_wp2_with (fail)
      exact RelEnd.mk rfl (Below.refl _ _) (by show _ = _; rw [L4.out]; rfl)
    case refine_6 =>
      go_wp2_with (fail); exact RelEnd.mk rfl (Below.refl _ _) rfl
    case refine_7 =>
      have q : World.cell? W2 ⟨w.heap.size, 31, none⟩ = some (.int .i64 c.req) := (Bw.out.below hb2 Bw.out.lt).cell (Cmd.getI hw.out 1 (by omega))
      go_wp2_with (fail); exact RelEnd.mk rfl (Below.refl _ _) rfl
    case refine_8 =>
      go_wp2_with (go_at_call 41; refine (c_ref01_Num _ _).mono ?_; rintro e3 W3 ⟨rfl, hb3⟩)
      exact RelEnd.mk rfl hb3 rfl
    case refine_9 =>
      have bv : ¬ 9223372036854775807 < l4.length + (num c.req).length := by omega
      go_wp2_with (fail)
      exact RelEnd.mk rfl (Below.refl _ _) (by show _ = _; rw [L5.out]; rfl)
    case refine_10 =>
      go_wp2_with (fail); exact RelEnd.mk rfl (Below.refl _ _) rfl
  · intro u W2 hb2 hold
    simp only [RelHold, Sp.eq_holds, Nat.reduceAdd] at hold
    obtain ⟨-, -, -, -, -, -, -, -, -, hE, -⟩ := hold
    simp only [putAll, Act.put, Nat.reduceAdd, List.setIfInBounds_toArray, List.set_cons_zero, List.set_cons_succ]
    have e4 := hE
    replace B0 := Lib.hid (B0.out.step hb2)
    rw [e4]
    clear hE e4 Bw HIw hb2
    obtain ⟨q0, q1, q2, q3, q4, q5, q6, q7⟩ := cmd_cells hw.out B0.out.2
    go_wp2_with (fail)
    clear q0 q1 q2 q3 q4 q5 q6 q7
    have Bw := Lib.hid B0.out.2
    have HIw := Lib.hid (HI.out.below B0.out.1)
    refine wp_region_rel [Sp.eq (.string (str l5)), Sp.eq (.pointer (some ⟨w.heap.size, 61, none⟩)), Sp.eq (.slice A c.f.length n), Sp.eq (.string (str (putB c.f))), Sp.eq (.string (str l6)), Sp.eq (.pointer (some ⟨w.heap.size, 62, none⟩)), Sp.eq (.int .u32 c.mask), Sp.eq (.int .i64 c.mask), Sp.eq (.string (str (num c.mask))), Sp.eq (.string (str l7)), Sp.eq (.string (str l7))] 65 (by kernel_rfl) (by kernel_rfl) rfl rfl ?_ ?_
    · refine ⟨?_, ?_, ?_, ?_, ?_, ?_, ?_, ?_, ?_, ?_, ?_, trivial⟩
      all_goals (intro u W2 hb2 hd; simp [Deps, Region.binds, Sp.eq_holds] at hd; simp only [putDeps, dstOf, Region.binds])
      case refine_1 =>
        go_wp2_with (fail); exact RelEnd.mk rfl (Below.refl _ _) rfl
      case refine_2 =>
        go_wp2_with (fail); exact RelEnd.mk rfl (Below.refl _ _) rfl
      case refine_3 =>
        have q : World.cell? W2 ⟨w.heap.size, 61, none⟩ = some (.slice A c.f.length n) := (Bw.out.below hb2 Bw.out.lt).cell (Cmd.getF hw.out 0 (by omega))
        go_wp2_with (fail); exact RelEnd.mk rfl (Below.refl _ _) rfl
      case refine_4 =>
        go_wp2_with (go_at_call 44; refine (c_ref16_Put c.f A n _ (HIw.out.below hb2) Hs.out).mono ?_; rintro e3 W3 ⟨rfl, hb3⟩)
        exact RelEnd.mk rfl hb3 rfl
      case refine_5 =>
        have bv : ¬ 9223372036854775807 < l5.length + (putB c.f).length := by omega
        go_wp2_with (fail)
        exact RelEnd.mk rfl (Below.refl _ _) (by show _ = _; rw [L6.out]; rfl)
      case refine_6 =>
        go_wp2_with (fail); exact RelEnd.mk rfl (Below.refl _ _) rfl
      case refine_7 =>
        have q : World.cell? W2 ⟨w.heap.size, 62, none⟩ = some (.int .u32 c.mask) := (Bw.out.below hb2 Bw.out.lt).cell (Cmd.getF hw.out 1 (by omega))
        go_wp2_with (fail); exact RelEnd.mk rfl (Below.refl _ _) rfl
      case refine_8 =>
        have kw : IntKind.i64.wrap (c.mask : Int) = c.mask := IntWalk.i64_in _ (by omega)
        go_wp2_with (fail); exact RelEnd.mk rfl (Below.refl _ _) rfl
      case refine_9 =>
        go_wp2_with (go_at_call 41; refine (c_ref01_Num _ _).mono ?_; rintro e3 W3 ⟨rfl, hb3⟩)
        exact RelEnd.mk rfl hb3 rfl
      case refine_10 =>
        have bv : ¬ 9223372036854775807 < l6.length + (num (c.mask : Int)).length := by omega
        go_wp2_with (fail)
        exact RelEnd.mk rfl (Below.refl _ _) (by show _ = _; rw [L7.out]; rfl)
      case refine_11 =>
        go_wp2_with (fail); exact RelEnd.mk rfl (Below.refl _ _) rfl
    · intro u W2 hb2 hold
      simp only [RelHold, Sp.eq_holds, Nat.reduceAdd] at hold
      obtain ⟨-, -, -, -, -, -, -, -, -, -, hE, -⟩ := hold
      simp only [putAll, Act.put, Nat.reduceAdd, List.setIfInBounds_toArray, List.set_cons_zero, List.set_cons_succ]
      have e4 := hE
      replace B0 := Lib.hid (B0.out.step hb2)
      rw [e4]
      clear hE e4 Bw HIw hb2
      obtain ⟨q0, q1, q2, q3, q4, q5, q6, q7⟩ := cmd_cells hw.out B0.out.2
      go_wp2_with (fail)
      go_ret
      exact RetV.str H.out B0.out.1
set_option maxHeartbeats 4000000 in
set_option maxRecDepth 4000 in
theorem ref33_Put_4 (c : Cmd) (A : Option Addr) (n : Nat) (w : World) (hwf : c.wf) (hr : c.rng) (hI : InN w A n c.f) (hs : ∀ x ∈ c.f, x.v.s.length ≤ 4294967000) (hse : ∀ x ∈ c.e.p.f, x.s.length ≤ 4294967000) (hsp : ∀ x ∈ c.p.f, x.s.length ≤ 4294967000) (hme : c.e.p.mask < 4294967296) (hmp : c.p.mask < 4294967296) (hm : c.mask < 4294967296) (hok : c.ok = true) (hk : c.kind = 4) :
    Calls Tryd.prog 12 #[.agg (c.arr A n)] w (RetV w (.string (str (cmdB c)))) := by
  have Hs := Lib.hid hs
  have Hse := Lib.hid hse
  have Hsp := Lib.hid hsp
  have HI := Lib.hid hI
  have hw := Lib.hid hwf
  have HR := Lib.hid hr
  have HOK := Lib.hid hok
  have B0 := Lib.hid (At.new w 32 (c.arr A n))
  clear hs hse hsp hI hwf hr hok
  have j1 : (c.kind == 1) = false := by rw [hk]; rfl
  have j5 : (c.kind == 5) = false := by rw [hk]; rfl
  have j2 : (c.kind == 2) = false := by rw [hk]; rfl
  have j3 : (c.kind == 3) = false := by rw [hk]; rfl
  have hn1 := (num_len c.dev).2
  have hn2 := (num_len c.req).2
  have hn3 := (num_len c.id).2
  have hn4 := (num_len c.base).2
  have hn5 := (num_len (c.mask : Int)).2
  have hn6 := patchB_len c.p
  have hn7 := putB_len c.f
  have hn := (num_len c.kind).2
  obtain ⟨l4, hl4⟩ : ∃ l4, l4 = num c.kind ++ num c.dev := ⟨_, rfl⟩
  have l4n : l4.length ≤ 14 := by rw [hl4]; simp only [List.length_append]; omega
  have L4 := Lib.hid hl4
  obtain ⟨l5, hl5⟩ : ∃ l5, l5 = l4 ++ num c.req := ⟨_, rfl⟩
  have l5n : l5.length ≤ 21 := by rw [hl5]; simp only [List.length_append]; omega
  have L5 := Lib.hid hl5
  have H : Hid (l5 = cmdB c) := by show _ = _; rw [hl5, hl4, cmdB_ok HOK.out, cmdT_4 hk]; simp
  clear hk hn hl4 hl5
  go_enter Tryd.func12, Tryd.ntmps12
  go_wp2_with (with_reducible refine stop_load 32 (.tmp 1) rfl rfl ?_)
  refine Stop.mk (wpList_loadB rfl _ _ rfl w.heap.size rfl _ B0.out.2 strCm (Cmd.arr_size hw.out) ?_)
  go_wp2_with (fail)
  refine (c_ref32_Check c A n _ hw.out HR.out (HI.out.below B0.out.1) Hs.out Hse.out Hsp.out hme hmp hm).mono ?_
  rintro e w1 ⟨rfl, hb1⟩
  replace B0 := Lib.hid (B0.out.step hb1)
  rw [HOK.out]
  clear hb1
  obtain ⟨q0, q1, q2, q3, q4, q5, q6, q7⟩ := cmd_cells hw.out B0.out.2
  have hn := (num_len c.kind).2
  go_wp2_with (fail)
  refine (c_ref01_Num _ _).mono ?_
  rintro e w2 ⟨rfl, hb2⟩
  replace B0 := Lib.hid (B0.out.step hb2)
  clear hb2 q0 q1 q2 q3 q4 q5 q6 q7
  obtain ⟨q0, q1, q2, q3, q4, q5, q6, q7⟩ := cmd_cells hw.out B0.out.2
  go_wp2_with (fail)
  clear q0 q1 q2 q3 q4 q5 q6 q7
  have Bw := Lib.hid B0.out.2
  have HIw := Lib.hid (HI.out.below B0.out.1)
  refine wp_region_rel [Sp.eq (.string (str (num c.kind))), Sp.eq (.pointer (some ⟨w.heap.size, 30, none⟩)), Sp.eq (.int .i64 c.dev), Sp.eq (.string (str (num c.dev))), Sp.eq (.string (str l4)), Sp.eq (.pointer (some ⟨w.heap.size, 31, none⟩)), Sp.eq (.int .i64 c.req), Sp.eq (.string (str (num c.req))), Sp.eq (.string (str l5)), Sp.eq (.string (str l5))] 65 (by kernel_rfl) (by kernel_rfl) rfl rfl ?_ ?_
  · refine ⟨?_, ?_, ?_, ?_, ?_, ?_, ?_, ?_, ?_, ?_, trivial⟩
    all_goals (intro u W2 hb2 hd; simp [Deps, Region.binds, Sp.eq_holds] at hd; simp only [putDeps, dstOf, Region.binds])
    case refine_1 =>
      go_wp2_with (fail); exact RelEnd.mk rfl (Below.refl _ _) rfl
    case refine_2 =>
      go_wp2_with (fail); exact RelEnd.mk rfl (Below.refl _ _) rfl
    case refine_3 =>
      have q : World.cell? W2 ⟨w.heap.size, 30, none⟩ = some (.int .i64 c.dev) := (Bw.out.below hb2 Bw.out.lt).cell (Cmd.getI hw.out 0 (by omega))
      go_wp2_with (fail); exact RelEnd.mk rfl (Below.refl _ _) rfl
    case refine_4 =>
      go_wp2_with (go_at_call 41; refine (c_ref01_Num _ _).mono ?_; rintro e3 W3 ⟨rfl, hb3⟩)
      exact RelEnd.mk rfl hb3 rfl
    case refine_5 =>
      have bv : ¬ 9223372036854775807 < (num c.kind).length + (num c.dev).length := by omega
      go_wp2_with (fail)
      exact RelEnd.mk rfl (Below.refl _ _) (by show _ = _; rw [L4.out]; rfl)
    case refine_6 =>
      go_wp2_with (fail); exact RelEnd.mk rfl (Below.refl _ _) rfl
    case refine_7 =>
      have q : World.cell? W2 ⟨w.heap.size, 31, none⟩ = some (.int .i64 c.req) := (Bw.out.below hb2 Bw.out.lt).cell (Cmd.getI hw.out 1 (by omega))
      go_wp2_with (fail); exact RelEnd.mk rfl (Below.refl _ _) rfl
    case refine_8 =>
      go_wp2_with (go_at_call 41; refine (c_ref01_Num _ _).mono ?_; rintro e3 W3 ⟨rfl, hb3⟩)
      exact RelEnd.mk rfl hb3 rfl
    case refine_9 =>
      have bv : ¬ 9223372036854775807 < l4.length + (num c.req).length := by omega
      go_wp2_with (fail)
      exact RelEnd.mk rfl (Below.refl _ _) (by show _ = _; rw [L5.out]; rfl)
    case refine_10 =>
      go_wp2_with (fail); exact RelEnd.mk rfl (Below.refl _ _) rfl
  · intro u W2 hb2 hold
    simp only [RelHold, Sp.eq_holds, Nat.reduceAdd] at hold
    obtain ⟨-, -, -, -, -, -, -, -, -, hE, -⟩ := hold
    simp only [putAll, Act.put, Nat.reduceAdd, List.setIfInBounds_toArray, List.set_cons_zero, List.set_cons_succ]
    have e4 := hE
    replace B0 := Lib.hid (B0.out.step hb2)
    rw [e4]
    clear hE e4 Bw HIw hb2
    obtain ⟨q0, q1, q2, q3, q4, q5, q6, q7⟩ := cmd_cells hw.out B0.out.2
    go_wp2_with (fail)
    go_ret
    exact RetV.str H.out B0.out.1
theorem c_ref33_Put (c : Cmd) (A : Option Addr) (n : Nat) (w : World) (hwf : c.wf) (hr : c.rng) (hI : InN w A n c.f) (hs : ∀ x ∈ c.f, x.v.s.length ≤ 4294967000) (hse : ∀ x ∈ c.e.p.f, x.s.length ≤ 4294967000) (hsp : ∀ x ∈ c.p.f, x.s.length ≤ 4294967000) (hme : c.e.p.mask < 4294967296) (hmp : c.p.mask < 4294967296) (hm : c.mask < 4294967296) :
    Calls Tryd.prog 12 #[.agg (c.arr A n)] w (RetV w (.string (str (cmdB c)))) := by
  cases hok : c.ok
  case false => exact ref33_Put_bad c A n w hwf hr hI hs hse hsp hme hmp hm hok
  case true =>
    have hk := Cmd.ok_kind hok
    rcases (show c.kind = 1 ∨ c.kind = 2 ∨ c.kind = 3 ∨ c.kind = 4 ∨ c.kind = 5 by omega) with h | h | h | h | h
    · exact ref33_Put_1 c A n w hwf hr hI hs hse hsp hme hmp hm hok h
    · exact ref33_Put_2 c A n w hwf hr hI hs hse hsp hme hmp hm hok h
    · exact ref33_Put_3 c A n w hwf hr hI hs hse hsp hme hmp hm hok h
    · exact ref33_Put_4 c A n w hwf hr hI hs hse hsp hme hmp hm hok h
    · exact ref33_Put_5 c A n w hwf hr hI hs hse hsp hme hmp hm hok h
end Go.Proofs.YtjhndilflcigiaaDoor
