/-
  Lemmas (walks and plain laws), in one text.
-/
import Derived.Test.YtjhndilflcigiaaDoorQc24
import Derived.Test.YtjhndilflcigiaaDoorRows
import Derived.WalkKit
import Derived.WalkSpells
import Derived.WalkLawsBesides
import Derived.Lib.Hide
import Derived.Deep.QuietTactic
import Derived.BigQuiet
import Derived.Maps.AppendAt
import Derived.WalkSmall
import Derived.ProofKit
import Derived.OpenShut
import Derived.JoinedCond
import Derived.Deep.Slices
import Derived.Deep.Fields
import Derived.Carry
import Derived.Deep.AppendSrc
import Derived.Lib.AppendStr
import Derived.Laws.BytesArg
import Derived.Test.YtjhndilflcigiaaDoorProg
import Derived.Shelf.Spec.TrailingZeros
import Derived.RangeFuncNested
import Derived.RangeFuncBound
import Derived.RangeFuncCalls
import Derived.RangeFuncLeaves
import Derived.Shelf.Abstract
import Derived.Shelf.RegionOpen
import Derived.OwnWalkIn
import Derived.TacticsInMore
import Derived.LoopNIn
import Derived.LoopIn
import Derived.Test.YtjhndilflcigiaaDoorTie
import Derived.Lib.LaidTab
import Derived.LaidMore
import Derived.SevenTiedAt
import Derived.Test.YtjhndilflcigiaaDoorCards
import Derived.Laws.Tables
import Derived.Laws.Rows
import Derived.ChangeKeysEq
import Derived.Laws.StructEq
import Derived.Deep.CutBlock
import Derived.Deep.DeepCutAuto
import Derived.Laws.CopyOwn
import Derived.Outline
import Derived.IntWalk
import Derived.Lib.EndianBits
import Derived.StillTail
import Derived.Lib.AppendZeros
import Derived.Deep.Quiet
import Derived.Maps.Own
import Derived.WalkMore
namespace Go.Proofs.YtjhndilflcigiaaDoor
open Go.RowKit

set_option maxHeartbeats 8000000 in
set_option maxRecDepth 4000 in
theorem ref19_Check_fP (e : Edit) (w : World) (hf : e.p.f.length = 8) (h1 : 1 ≤ e.kind) (h7 : e.kind ≤ 7) (hg : hasG e.kind = true ∨ (hasG e.kind = false ∧ e.group = 0)) (hi : hasI e.kind = true) (g0 : 0 ≤ e.group) (g1 : e.group < 16) (hr : e.id < 1 ∨ (1 ≤ e.id ∧ 1073741824 ≤ e.id)) (hp : hasP e.kind = true) : Calls Tryd.prog 85 #[.agg e.arr] w (RetV w (.int .i64 e.code)) := by
  have k1 : decide (e.kind < 1) = false := by simpa using h1
  have k2 : decide (7 < e.kind) = false := by simpa using h7
  have HF := Lib.hid hf
  have hsz : e.p.arr.size = 26 := by rw [Patch.arr_size, hf]
  have HZ := Lib.hid hsz
  clear hsz hf
  have BC0 := Lib.hid (At.new w 29 e.arr)
  obtain ⟨q0, q1, q2⟩ := BC0.out.edit
  have E := Lib.hid (Edit.code_gi (e := e) (fun h => by have := iOk_ok h.2; rw [hi] at this; simp only [true_and, Bool.true_eq_false, false_and, or_false] at this; omega))
  have ka : decide (e.group < 0) = false := by simpa using g0
  have kb : decide (16 ≤ e.group) = false := by simpa using g1
  have hr' : decide (e.id < 1) = true ∨ (decide (e.id < 1) = false ∧ decide (1073741824 ≤ e.id) = true) := by
    rcases hr with hr | ⟨ha, hr⟩
    · exact .inl (by simpa using hr)
    · exact .inr ⟨by simpa using ha, by simpa using hr⟩
  clear hr
  rcases hg with hg | ⟨hg, hg0⟩
  all_goals
    (try (have kg : (e.group != 0) = false := by simpa using hg0))
    (try clear hg0)
    rcases hr' with hr | ⟨ha, hr⟩
    all_goals
      go_enter Tryd.func85, Tryd.ntmps85
      go_wp2_with (with_reducible refine stop_store 27 (.tmp 3) (.tmp 12) rfl rfl ?_)
      refine Stop.mk (wpList_storeB rfl _ _ _ rfl (w.heap.size + 1) _ (by simp [go_sem]) rfl _ (by simpa using Blk.new (w.alloc _) _ _) strP rfl rfl (by simp [Value.oneCell']) ?_)
      intro w2 hb2 hk2
      have BC := Lib.hid (BC0.out.step (((Below.refl _ _).alloc (Nat.le_refl _) _).trans (hk2.oneB (by simp) (by simp))))
      have BN := Lib.hid (show Blk w2 (w.heap.size + 1) pz.arr by rw [pz_cells]; exact hb2)
      clear hb2 hk2 q0 q1 q2
      obtain ⟨q0, q1, q2⟩ := BC.out.edit
      go_wp2_with (first
        | (go_at_call 100; refine (c_ref19_group e.kind _ (by omega) h7).mono ?_; rintro e1 w1 ⟨rfl, hb1⟩; replace BC := Lib.hid (BC.out.step hb1); replace BN := Lib.hid (BN.out.below hb1 BN.out.lt); clear q0 q1 q2; obtain ⟨q0, q1, q2⟩ := BC.out.edit)
        | (go_at_call 101; refine (c_ref19_id e.kind _ (by omega) h7).mono ?_; rintro e1 w1 ⟨rfl, hb1⟩; replace BC := Lib.hid (BC.out.step hb1); replace BN := Lib.hid (BN.out.below hb1 BN.out.lt); clear q0 q1 q2; obtain ⟨q0, q1, q2⟩ := BC.out.edit)
        | (go_at_call 102; refine (c_ref19_patch e.kind _ (by omega) h7).mono ?_; rintro e1 w1 ⟨rfl, hb1⟩; replace BC := Lib.hid (BC.out.step hb1); replace BN := Lib.hid (BN.out.below hb1 BN.out.lt); clear q0 q1 q2; obtain ⟨q0, q1, q2⟩ := BC.out.edit))
      go_ret
      exact RetV.int E.out.symm BC.out.1
set_option maxHeartbeats 8000000 in
set_option maxRecDepth 4000 in
theorem ref19_Check_fN (e : Edit) (w : World) (hf : e.p.f.length = 8) (h1 : 1 ≤ e.kind) (h7 : e.kind ≤ 7) (hg : hasG e.kind = true ∨ (hasG e.kind = false ∧ e.group = 0)) (hi : hasI e.kind = true) (g0 : 0 ≤ e.group) (g1 : e.group < 16) (hr : e.id < 1 ∨ (1 ≤ e.id ∧ 1073741824 ≤ e.id)) (hp : hasP e.kind = false) (hp0 : e.p = pz) : Calls Tryd.prog 85 #[.agg e.arr] w (RetV w (.int .i64 e.code)) := by
  have k1 : decide (e.kind < 1) = false := by simpa using h1
  have k2 : decide (7 < e.kind) = false := by simpa using h7
  have HF := Lib.hid hf
  have hsz : e.p.arr.size = 26 := by rw [Patch.arr_size, hf]
  have HZ := Lib.hid hsz
  clear hsz hf
  have BC0 := Lib.hid (At.new w 29 e.arr)
  obtain ⟨q0, q1, q2⟩ := BC0.out.edit
  have E := Lib.hid (Edit.code_gi (e := e) (fun h => by have := iOk_ok h.2; rw [hi] at this; simp only [true_and, Bool.true_eq_false, false_and, or_false] at this; omega))
  have ka : decide (e.group < 0) = false := by simpa using g0
  have kb : decide (16 ≤ e.group) = false := by simpa using g1
  have hr' : decide (e.id < 1) = true ∨ (decide (e.id < 1) = false ∧ decide (1073741824 ≤ e.id) = true) := by
    rcases hr with hr | ⟨ha, hr⟩
    · exact .inl (by simpa using hr)
    · exact .inr ⟨by simpa using ha, by simpa using hr⟩
  clear hr
  have hz : decide (e.p = pz) = true := by simpa using hp0
  clear hp0
  rcases hg with hg | ⟨hg, hg0⟩
  all_goals
    (try (have kg : (e.group != 0) = false := by simpa using hg0))
    (try clear hg0)
    rcases hr' with hr | ⟨ha, hr⟩
    all_goals
      go_enter Tryd.func85, Tryd.ntmps85
      go_wp2_with (with_reducible refine stop_store 27 (.tmp 3) (.tmp 12) rfl rfl ?_)
      refine Stop.mk (wpList_storeB rfl _ _ _ rfl (w.heap.size + 1) _ (by simp [go_sem]) rfl _ (by simpa using Blk.new (w.alloc _) _ _) strP rfl rfl (by simp [Value.oneCell']) ?_)
      intro w2 hb2 hk2
      have BC := Lib.hid (BC0.out.step (((Below.refl _ _).alloc (Nat.le_refl _) _).trans (hk2.oneB (by simp) (by simp))))
      have BN := Lib.hid (show Blk w2 (w.heap.size + 1) pz.arr by rw [pz_cells]; exact hb2)
      clear hb2 hk2 q0 q1 q2
      obtain ⟨q0, q1, q2⟩ := BC.out.edit
      go_wp2_with (first
        | (go_at_call 100; refine (c_ref19_group e.kind _ (by omega) h7).mono ?_; rintro e1 w1 ⟨rfl, hb1⟩; replace BC := Lib.hid (BC.out.step hb1); replace BN := Lib.hid (BN.out.below hb1 BN.out.lt); clear q0 q1 q2; obtain ⟨q0, q1, q2⟩ := BC.out.edit)
        | (go_at_call 101; refine (c_ref19_id e.kind _ (by omega) h7).mono ?_; rintro e1 w1 ⟨rfl, hb1⟩; replace BC := Lib.hid (BC.out.step hb1); replace BN := Lib.hid (BN.out.below hb1 BN.out.lt); clear q0 q1 q2; obtain ⟨q0, q1, q2⟩ := BC.out.edit)
        | (go_at_call 102; refine (c_ref19_patch e.kind _ (by omega) h7).mono ?_; rintro e1 w1 ⟨rfl, hb1⟩; replace BC := Lib.hid (BC.out.step hb1); replace BN := Lib.hid (BN.out.below hb1 BN.out.lt); clear q0 q1 q2; obtain ⟨q0, q1, q2⟩ := BC.out.edit)
        | (with_reducible refine stop_loadG 27 (.tmp 39) rfl ?_))
      refine Stop.mk (wpList_loadAtG (by rfl) _ _ rfl w.heap.size 3 rfl e.p.arr (Edit.part BC.out.2) strP HZ.out ?_)
      go_wp2_with (with_reducible refine stop_loadG 27 (.tmp 3) rfl ?_)
      refine Stop.mk (wpList_loadAtG (by rfl) _ _ rfl (w.heap.size + 1) 0 rfl pz.arr BN.out.all strP (by rw [Patch.arr_size]; rfl) ?_)
      go_wp2_with (with_reducible refine stop_bin .neq 27 (.tmp 40) (.tmp 41) 27 rfl ?_)
      refine Stop.mk (wpList_neqS (by rfl) _ _ _ _ rfl e.p.arr pz.arr rfl rfl gP _ ((eq_patch HF.out rfl 9996 _).trans (by rw [hz])) ?_)
      go_wp2_with (first
        | (go_at_call 100; refine (c_ref19_group e.kind _ (by omega) h7).mono ?_; rintro e1 w1 ⟨rfl, hb1⟩; replace BC := Lib.hid (BC.out.step hb1); replace BN := Lib.hid (BN.out.below hb1 BN.out.lt); clear q0 q1 q2; obtain ⟨q0, q1, q2⟩ := BC.out.edit)
        | (go_at_call 101; refine (c_ref19_id e.kind _ (by omega) h7).mono ?_; rintro e1 w1 ⟨rfl, hb1⟩; replace BC := Lib.hid (BC.out.step hb1); replace BN := Lib.hid (BN.out.below hb1 BN.out.lt); clear q0 q1 q2; obtain ⟨q0, q1, q2⟩ := BC.out.edit)
        | (go_at_call 102; refine (c_ref19_patch e.kind _ (by omega) h7).mono ?_; rintro e1 w1 ⟨rfl, hb1⟩; replace BC := Lib.hid (BC.out.step hb1); replace BN := Lib.hid (BN.out.below hb1 BN.out.lt); clear q0 q1 q2; obtain ⟨q0, q1, q2⟩ := BC.out.edit))
      go_ret
      exact RetV.int E.out.symm BC.out.1
end Go.Proofs.YtjhndilflcigiaaDoor
namespace Go.Proofs.YtjhndilflcigiaaDoor
open Go.RowKit

set_option maxHeartbeats 8000000 in
set_option maxRecDepth 4000 in
theorem ref19_Check_kP (e : Edit) (w : World) (hf : e.p.f.length = 8) (hs : ∀ x ∈ e.p.f, x.s.length ≤ 4294967000) (hm : e.p.mask < 4294967296) (h1 : 1 ≤ e.kind) (h7 : e.kind ≤ 7) (hg : hasG e.kind = true ∨ (hasG e.kind = false ∧ e.group = 0)) (hi : hasI e.kind = true ∧ 1 ≤ e.id ∧ e.id < 1073741824 ∨ (hasI e.kind = false ∧ e.id = 0)) (hok : e.gOk = true ∧ e.iOk = true) (hp : hasP e.kind = true) : Calls Tryd.prog 85 #[.agg e.arr] w (RetV w (.int .i64 e.code)) := by
  have k1 : decide (e.kind < 1) = false := by simpa using h1
  have k2 : decide (7 < e.kind) = false := by simpa using h7
  have HF := Lib.hid hf
  have hsz : e.p.arr.size = 26 := by rw [Patch.arr_size, hf]
  have HZ := Lib.hid hsz
  clear hsz hf
  have BC0 := Lib.hid (At.new w 29 e.arr)
  obtain ⟨q0, q1, q2⟩ := BC0.out.edit
  have E := Lib.hid (Edit.code_p h1 h7 hok.1 hok.2)
  obtain ⟨g0, g1, -⟩ := gOk_ok hok.1
  have ka : decide (e.group < 0) = false := by simpa using g0
  have kb : decide (16 ≤ e.group) = false := by simpa using g1
  clear hok g0 g1
  rcases hg with hg | ⟨hg, hg0⟩
  all_goals
    (try (have kg : (e.group != 0) = false := by simpa using hg0))
    (try clear hg0)
    rcases hi with ⟨hi, i1, i2⟩ | ⟨hi, hi0⟩
    all_goals
      (try (have ki : (e.id != 0) = false := by simpa using hi0))
      (try (have ki1 : decide (e.id < 1) = false := by simpa using i1))
      (try (have ki2 : decide (1073741824 ≤ e.id) = false := by simpa using i2))
      (try clear hi0)
      (try clear i1 i2)
      go_enter Tryd.func85, Tryd.ntmps85
      go_wp2_with (with_reducible refine stop_store 27 (.tmp 3) (.tmp 12) rfl rfl ?_)
      refine Stop.mk (wpList_storeB rfl _ _ _ rfl (w.heap.size + 1) _ (by simp [go_sem]) rfl _ (by simpa using Blk.new (w.alloc _) _ _) strP rfl rfl (by simp [Value.oneCell']) ?_)
      intro w2 hb2 hk2
      have BC := Lib.hid (BC0.out.step (((Below.refl _ _).alloc (Nat.le_refl _) _).trans (hk2.oneB (by simp) (by simp))))
      have BN := Lib.hid (show Blk w2 (w.heap.size + 1) pz.arr by rw [pz_cells]; exact hb2)
      clear hb2 hk2 q0 q1 q2
      obtain ⟨q0, q1, q2⟩ := BC.out.edit
      go_wp2_with (first
        | (go_at_call 100; refine (c_ref19_group e.kind _ (by omega) h7).mono ?_; rintro e1 w1 ⟨rfl, hb1⟩; replace BC := Lib.hid (BC.out.step hb1); replace BN := Lib.hid (BN.out.below hb1 BN.out.lt); clear q0 q1 q2; obtain ⟨q0, q1, q2⟩ := BC.out.edit)
        | (go_at_call 101; refine (c_ref19_id e.kind _ (by omega) h7).mono ?_; rintro e1 w1 ⟨rfl, hb1⟩; replace BC := Lib.hid (BC.out.step hb1); replace BN := Lib.hid (BN.out.below hb1 BN.out.lt); clear q0 q1 q2; obtain ⟨q0, q1, q2⟩ := BC.out.edit)
        | (go_at_call 102; refine (c_ref19_patch e.kind _ (by omega) h7).mono ?_; rintro e1 w1 ⟨rfl, hb1⟩; replace BC := Lib.hid (BC.out.step hb1); replace BN := Lib.hid (BN.out.below hb1 BN.out.lt); clear q0 q1 q2; obtain ⟨q0, q1, q2⟩ := BC.out.edit)
        | (with_reducible refine stop_load 27 (.tmp 71) rfl rfl ?_))
      refine Stop.mk (wpList_loadAt rfl _ _ rfl w.heap.size 3 rfl e.p.arr (Edit.part BC.out.2) strP HZ.out ?_)
      go_wp2_with (first
        | (go_at_call 86; refine (c_ref06_CheckPatch e.p _ hm HF.out hs).mono ?_; rintro e1 w1 ⟨rfl, hb1⟩; replace BC := Lib.hid (BC.out.step hb1)))
      go_ret
      exact RetV.int (by rw [E.out, hp, if_pos rfl]) BC.out.1
set_option maxHeartbeats 8000000 in
set_option maxRecDepth 4000 in
theorem ref19_Check_kN (e : Edit) (w : World) (hf : e.p.f.length = 8) (_hs : ∀ x ∈ e.p.f, x.s.length ≤ 4294967000) (_hm : e.p.mask < 4294967296) (h1 : 1 ≤ e.kind) (h7 : e.kind ≤ 7) (hg : hasG e.kind = true ∨ (hasG e.kind = false ∧ e.group = 0)) (hi : hasI e.kind = true ∧ 1 ≤ e.id ∧ e.id < 1073741824 ∨ (hasI e.kind = false ∧ e.id = 0)) (hok : e.gOk = true ∧ e.iOk = true) (hp : hasP e.kind = false) (hp0 : e.p = pz) : Calls Tryd.prog 85 #[.agg e.arr] w (RetV w (.int .i64 e.code)) := by
  have k1 : decide (e.kind < 1) = false := by simpa using h1
  have k2 : decide (7 < e.kind) = false := by simpa using h7
  have HF := Lib.hid hf
  have hsz : e.p.arr.size = 26 := by rw [Patch.arr_size, hf]
  have HZ := Lib.hid hsz
  clear hsz hf
  have BC0 := Lib.hid (At.new w 29 e.arr)
  obtain ⟨q0, q1, q2⟩ := BC0.out.edit
  have E := Lib.hid (Edit.code_p h1 h7 hok.1 hok.2)
  obtain ⟨g0, g1, -⟩ := gOk_ok hok.1
  have ka : decide (e.group < 0) = false := by simpa using g0
  have kb : decide (16 ≤ e.group) = false := by simpa using g1
  clear hok g0 g1
  have hz : decide (e.p = pz) = true := by simpa using hp0
  clear hp0
  rcases hg with hg | ⟨hg, hg0⟩
  all_goals
    (try (have kg : (e.group != 0) = false := by simpa using hg0))
    (try clear hg0)
    rcases hi with ⟨hi, i1, i2⟩ | ⟨hi, hi0⟩
    all_goals
      (try (have ki : (e.id != 0) = false := by simpa using hi0))
      (try (have ki1 : decide (e.id < 1) = false := by simpa using i1))
      (try (have ki2 : decide (1073741824 ≤ e.id) = false := by simpa using i2))
      (try clear hi0)
      (try clear i1 i2)
      go_enter Tryd.func85, Tryd.ntmps85
      go_wp2_with (with_reducible refine stop_store 27 (.tmp 3) (.tmp 12) rfl rfl ?_)
      refine Stop.mk (wpList_storeB rfl _ _ _ rfl (w.heap.size + 1) _ (by simp [go_sem]) rfl _ (by simpa using Blk.new (w.alloc _) _ _) strP rfl rfl (by simp [Value.oneCell']) ?_)
      intro w2 hb2 hk2
      have BC := Lib.hid (BC0.out.step (((Below.refl _ _).alloc (Nat.le_refl _) _).trans (hk2.oneB (by simp) (by simp))))
      have BN := Lib.hid (show Blk w2 (w.heap.size + 1) pz.arr by rw [pz_cells]; exact hb2)
      clear hb2 hk2 q0 q1 q2
      obtain ⟨q0, q1, q2⟩ := BC.out.edit
      go_wp2_with (first
        | (go_at_call 100; refine (c_ref19_group e.kind _ (by omega) h7).mono ?_; rintro e1 w1 ⟨rfl, hb1⟩; replace BC := Lib.hid (BC.out.step hb1); replace BN := Lib.hid (BN.out.below hb1 BN.out.lt); clear q0 q1 q2; obtain ⟨q0, q1, q2⟩ := BC.out.edit)
        | (go_at_call 101; refine (c_ref19_id e.kind _ (by omega) h7).mono ?_; rintro e1 w1 ⟨rfl, hb1⟩; replace BC := Lib.hid (BC.out.step hb1); replace BN := Lib.hid (BN.out.below hb1 BN.out.lt); clear q0 q1 q2; obtain ⟨q0, q1, q2⟩ := BC.out.edit)
        | (go_at_call 102; refine (c_ref19_patch e.kind _ (by omega) h7).mono ?_; rintro e1 w1 ⟨rfl, hb1⟩; replace BC := Lib.hid (BC.out.step hb1); replace BN := Lib.hid (BN.out.below hb1 BN.out.lt); clear q0 q1 q2; obtain ⟨q0, q1, q2⟩ := BC.out.edit)
        | (with_reducible refine stop_loadG 27 (.tmp 39) rfl ?_))
      refine Stop.mk (wpList_loadAtG (by rfl) _ _ rfl w.heap.size 3 rfl e.p.arr (Edit.part BC.out.2) strP HZ.out ?_)
      go_wp2_with (with_reducible refine stop_loadG 27 (.tmp 3) rfl ?_)
      refine Stop.mk (wpList_loadAtG (by rfl) _ _ rfl (w.heap.size + 1) 0 rfl pz.arr BN.out.all strP (by rw [Patch.arr_size]; rfl) ?_)
      go_wp2_with (with_reducible refine stop_bin .neq 27 (.tmp 40) (.tmp 41) 27 rfl ?_)
      refine Stop.mk (wpList_neqS (by rfl) _ _ _ _ rfl e.p.arr pz.arr rfl rfl gP _ ((eq_patch HF.out rfl 9996 _).trans (by rw [hz])) ?_)
      go_wp2_with (first
        | (go_at_call 100; refine (c_ref19_group e.kind _ (by omega) h7).mono ?_; rintro e1 w1 ⟨rfl, hb1⟩; replace BC := Lib.hid (BC.out.step hb1); replace BN := Lib.hid (BN.out.below hb1 BN.out.lt); clear q0 q1 q2; obtain ⟨q0, q1, q2⟩ := BC.out.edit)
        | (go_at_call 101; refine (c_ref19_id e.kind _ (by omega) h7).mono ?_; rintro e1 w1 ⟨rfl, hb1⟩; replace BC := Lib.hid (BC.out.step hb1); replace BN := Lib.hid (BN.out.below hb1 BN.out.lt); clear q0 q1 q2; obtain ⟨q0, q1, q2⟩ := BC.out.edit)
        | (go_at_call 102; refine (c_ref19_patch e.kind _ (by omega) h7).mono ?_; rintro e1 w1 ⟨rfl, hb1⟩; replace BC := Lib.hid (BC.out.step hb1); replace BN := Lib.hid (BN.out.below hb1 BN.out.lt); clear q0 q1 q2; obtain ⟨q0, q1, q2⟩ := BC.out.edit))
      go_ret
      exact RetV.int (by rw [E.out, hp, if_neg (by decide), if_pos (of_decide_eq_true hz)]) BC.out.1
end Go.Proofs.YtjhndilflcigiaaDoor
namespace Go.Proofs.YtjhndilflcigiaaDoor
open Go.RowKit

theorem c_edit_Check (e : Edit) (w : World) (hf : e.p.f.length = 8) (hs : ∀ x ∈ e.p.f, x.s.length ≤ 4294967000) (hm : e.p.mask < 4294967296) : Calls Tryd.prog 90 #[.agg e.arr] w (RetV w (.int .i64 e.code)) := by
  by_cases hk : 1 ≤ e.kind ∧ e.kind ≤ 7
  · by_cases hg : e.gOk = true
    · by_cases hi : e.iOk = true
      · exact edit_Check_p e w hf hs hm hk.1 hk.2 hg hi
      · exact edit_Check_i e w hk.1 hk.2 hg hi
    · exact edit_Check_g e w hk.1 hk.2 hg
  · exact edit_Check_kind e w hk
theorem c_ref19_Check (e : Edit) (w : World) (hf : e.p.f.length = 8) (hs : ∀ x ∈ e.p.f, x.s.length ≤ 4294967000) (hm : e.p.mask < 4294967296) : Calls Tryd.prog 85 #[.agg e.arr] w (RetV w (.int .i64 e.code)) := by
  by_cases hk : 1 ≤ e.kind ∧ e.kind ≤ 7
  case neg => exact ref19_Check_kind e w hk
  obtain ⟨h1, h7⟩ := hk
  by_cases ha : hasG e.kind = false ∧ e.group ≠ 0
  · exact ref19_Check_a e w hf h1 h7 ha.1 ha.2
  have hg : hasG e.kind = true ∨ (hasG e.kind = false ∧ e.group = 0) := by
    cases h : hasG e.kind
    · exact .inr ⟨rfl, Classical.byContradiction fun h' => ha ⟨h, h'⟩⟩
    · exact .inl rfl
  by_cases hb : hasI e.kind = false ∧ e.id ≠ 0
  · exact ref19_Check_b e w hf h1 h7 hg hb.1 hb.2
  have hi : hasI e.kind = true ∨ (hasI e.kind = false ∧ e.id = 0) := by
    cases h : hasI e.kind
    · exact .inr ⟨rfl, Classical.byContradiction fun h' => hb ⟨h, h'⟩⟩
    · exact .inl rfl
  by_cases hc : hasP e.kind = false ∧ e.p ≠ pz
  · exact ref19_Check_c e w hf h1 h7 hg hi hc.1 hc.2
  have hp : hasP e.kind = true ∨ (hasP e.kind = false ∧ e.p = pz) := by
    cases h : hasP e.kind
    · exact .inr ⟨rfl, Classical.byContradiction fun h' => hc ⟨h, h'⟩⟩
    · exact .inl rfl
  by_cases hr : 0 ≤ e.group ∧ e.group < 16
  case neg =>
    have hr' : e.group < 0 ∨ (0 ≤ e.group ∧ 16 ≤ e.group) := by omega
    rcases hp with hp | ⟨hp, hp0⟩
    · exact ref19_Check_dP e w hf h1 h7 hg hi hr' hp
    · exact ref19_Check_dN e w hf h1 h7 hg hi hr' hp hp0
  have hgo : e.gOk = true := by
    unfold Edit.gOk
    simp only [Bool.and_eq_true, Bool.or_eq_true, decide_eq_true_eq]
    exact ⟨hr, hg.imp id And.right⟩
  by_cases hq : hasI e.kind = true ∧ ¬ (1 ≤ e.id ∧ e.id < 1073741824)
  · have hr' : e.id < 1 ∨ (1 ≤ e.id ∧ 1073741824 ≤ e.id) := by omega
    rcases hp with hp | ⟨hp, hp0⟩
    · exact ref19_Check_fP e w hf h1 h7 hg hq.1 hr.1 hr.2 hr' hp
    · exact ref19_Check_fN e w hf h1 h7 hg hq.1 hr.1 hr.2 hr' hp hp0
  have hi' : hasI e.kind = true ∧ 1 ≤ e.id ∧ e.id < 1073741824 ∨ (hasI e.kind = false ∧ e.id = 0) := by
    rcases hi with hi | hi
    · exact .inl ⟨hi, Classical.byContradiction fun h' => hq ⟨hi, h'⟩⟩
    · exact .inr hi
  have hio : e.iOk = true := by
    unfold Edit.iOk
    rcases hi' with ⟨h, h2⟩ | ⟨h, h2⟩
    · rw [h, if_pos rfl]; exact decide_eq_true h2
    · rw [h, if_neg (by decide)]; exact decide_eq_true h2
  rcases hp with hp | ⟨hp, hp0⟩
  · exact ref19_Check_kP e w hf hs hm h1 h7 hg hi' ⟨hgo, hio⟩ hp
  · exact ref19_Check_kN e w hf hs hm h1 h7 hg hi' ⟨hgo, hio⟩ hp hp0
theorem Edit.size {e : Edit} (hf : e.p.f.length = 8) : e.arr.size = 29 := by rw [Edit.arr_size, hf]
end Go.Proofs.YtjhndilflcigiaaDoor
