/-
  The walk of the reference's Check of edits (a group out of range). (Printed by gen19.py.)
-/
import Derived.Test.YtiedkcijjfmhaaaDoorSc12
namespace Go.Proofs.YtiedkcijjfmhaaaDoor
open Go.RowKit

set_option maxHeartbeats 8000000 in
set_option maxRecDepth 4000 in
theorem ref19_Check_dP (e : Edit) (w : World) (hf : e.p.f.length = 8) (h1 : 1 ≤ e.kind) (h7 : e.kind ≤ 7) (hg : hasG e.kind = true ∨ (hasG e.kind = false ∧ e.group = 0)) (hi : hasI e.kind = true ∨ (hasI e.kind = false ∧ e.id = 0)) (hr : e.group < 0 ∨ (0 ≤ e.group ∧ 16 ≤ e.group)) (hp : hasP e.kind = true) : Calls Tryd.prog 30 #[.agg e.arr] w (RetV w (.int .i64 e.code)) := by
  have k1 : decide (e.kind < 1) = false := by simpa using h1
  have k2 : decide (7 < e.kind) = false := by simpa using h7
  have HF := Lib.hid hf
  have hsz : e.p.arr.size = 26 := by rw [Patch.arr_size, hf]
  have HZ := Lib.hid hsz
  clear hsz hf
  have BC0 := Lib.hid (At.new w 30 e.arr)
  obtain ⟨q0, q1, q2⟩ := BC0.out.edit
  have E := Lib.hid (Edit.code_gi (e := e) (fun h => by have := (gOk_ok h.1).1; have := (gOk_ok h.1).2.1; omega))
  have hr' : decide (e.group < 0) = true ∨ (decide (e.group < 0) = false ∧ decide (16 ≤ e.group) = true) := by
    rcases hr with hr | ⟨ha, hr⟩
    · exact .inl (by simpa using hr)
    · exact .inr ⟨by simpa using ha, by simpa using hr⟩
  clear hr
  rcases hg with hg | ⟨hg, hg0⟩
  all_goals
    (try (have kg : (e.group != 0) = false := by simpa using hg0))
    (try clear hg0)
    rcases hi with hi | ⟨hi, hi0⟩
    all_goals
      (try (have ki : (e.id != 0) = false := by simpa using hi0))
      rcases hr' with hr | ⟨ha, hr⟩
      all_goals
        go_enter Tryd.func30, Tryd.ntmps30
        go_wp2_with (with_reducible refine stS 28 (.tmp 3) (.tmp 12) rfl rfl ?_)
        refine Stop.mk (wsB rfl _ _ _ rfl (w.heap.size + 1) _ (by simp [go_sem]) rfl _ (by simpa using Blk.new (w.alloc _) _ _) strP rfl rfl (by simp [Value.oneCell']) ?_)
        intro w2 hb2 hk2
        have BC := Lib.hid (BC0.out.step (((Below.refl _ _).alloc (Nat.le_refl _) _).trans (hk2.oneB (by simp) (by simp))))
        have BN := Lib.hid (show Blk w2 (w.heap.size + 1) pz.arr by rw [pz_cells]; exact hb2)
        clear hb2 hk2 q0 q1 q2
        obtain ⟨q0, q1, q2⟩ := BC.out.edit
        go_wp2_with (first
          | (go_at_call 58; refine (c_ref19_group e.kind _ (by omega) h7).mono ?_; rintro e1 w1 ⟨rfl, hb1⟩; replace BC := Lib.hid (BC.out.step hb1); replace BN := Lib.hid (BN.out.below hb1 BN.out.lt); clear q0 q1 q2; obtain ⟨q0, q1, q2⟩ := BC.out.edit)
          | (go_at_call 59; refine (c_ref19_id e.kind _ (by omega) h7).mono ?_; rintro e1 w1 ⟨rfl, hb1⟩; replace BC := Lib.hid (BC.out.step hb1); replace BN := Lib.hid (BN.out.below hb1 BN.out.lt); clear q0 q1 q2; obtain ⟨q0, q1, q2⟩ := BC.out.edit)
          | (go_at_call 60; refine (c_ref19_patch e.kind _ (by omega) h7).mono ?_; rintro e1 w1 ⟨rfl, hb1⟩; replace BC := Lib.hid (BC.out.step hb1); replace BN := Lib.hid (BN.out.below hb1 BN.out.lt); clear q0 q1 q2; obtain ⟨q0, q1, q2⟩ := BC.out.edit))
        go_ret
        exact RetV.int E.out.symm BC.out.1
set_option maxHeartbeats 8000000 in
set_option maxRecDepth 4000 in
theorem ref19_Check_dN (e : Edit) (w : World) (hf : e.p.f.length = 8) (h1 : 1 ≤ e.kind) (h7 : e.kind ≤ 7) (hg : hasG e.kind = true ∨ (hasG e.kind = false ∧ e.group = 0)) (hi : hasI e.kind = true ∨ (hasI e.kind = false ∧ e.id = 0)) (hr : e.group < 0 ∨ (0 ≤ e.group ∧ 16 ≤ e.group)) (hp : hasP e.kind = false) (hp0 : e.p = pz) : Calls Tryd.prog 30 #[.agg e.arr] w (RetV w (.int .i64 e.code)) := by
  have k1 : decide (e.kind < 1) = false := by simpa using h1
  have k2 : decide (7 < e.kind) = false := by simpa using h7
  have HF := Lib.hid hf
  have hsz : e.p.arr.size = 26 := by rw [Patch.arr_size, hf]
  have HZ := Lib.hid hsz
  clear hsz hf
  have BC0 := Lib.hid (At.new w 30 e.arr)
  obtain ⟨q0, q1, q2⟩ := BC0.out.edit
  have E := Lib.hid (Edit.code_gi (e := e) (fun h => by have := (gOk_ok h.1).1; have := (gOk_ok h.1).2.1; omega))
  have hr' : decide (e.group < 0) = true ∨ (decide (e.group < 0) = false ∧ decide (16 ≤ e.group) = true) := by
    rcases hr with hr | ⟨ha, hr⟩
    · exact .inl (by simpa using hr)
    · exact .inr ⟨by simpa using ha, by simpa using hr⟩
  clear hr
  have hz : decide (e.p = pz) = true := by simpa using hp0
  clear hp0
  rcases hg with hg | ⟨hg, hg0⟩
  all_goals
    (try (have kg : (e.group != 0) = false := by simpa using hg0))
    (try clear hg0)
    rcases hi with hi | ⟨hi, hi0⟩
    all_goals
      (try (have ki : (e.id != 0) = false := by simpa using hi0))
      rcases hr' with hr | ⟨ha, hr⟩
      all_goals
        go_enter Tryd.func30, Tryd.ntmps30
        go_wp2_with (with_reducible refine stS 28 (.tmp 3) (.tmp 12) rfl rfl ?_)
        refine Stop.mk (wsB rfl _ _ _ rfl (w.heap.size + 1) _ (by simp [go_sem]) rfl _ (by simpa using Blk.new (w.alloc _) _ _) strP rfl rfl (by simp [Value.oneCell']) ?_)
        intro w2 hb2 hk2
        have BC := Lib.hid (BC0.out.step (((Below.refl _ _).alloc (Nat.le_refl _) _).trans (hk2.oneB (by simp) (by simp))))
        have BN := Lib.hid (show Blk w2 (w.heap.size + 1) pz.arr by rw [pz_cells]; exact hb2)
        clear hb2 hk2 q0 q1 q2
        obtain ⟨q0, q1, q2⟩ := BC.out.edit
        go_wp2_with (first
          | (go_at_call 58; refine (c_ref19_group e.kind _ (by omega) h7).mono ?_; rintro e1 w1 ⟨rfl, hb1⟩; replace BC := Lib.hid (BC.out.step hb1); replace BN := Lib.hid (BN.out.below hb1 BN.out.lt); clear q0 q1 q2; obtain ⟨q0, q1, q2⟩ := BC.out.edit)
          | (go_at_call 59; refine (c_ref19_id e.kind _ (by omega) h7).mono ?_; rintro e1 w1 ⟨rfl, hb1⟩; replace BC := Lib.hid (BC.out.step hb1); replace BN := Lib.hid (BN.out.below hb1 BN.out.lt); clear q0 q1 q2; obtain ⟨q0, q1, q2⟩ := BC.out.edit)
          | (go_at_call 60; refine (c_ref19_patch e.kind _ (by omega) h7).mono ?_; rintro e1 w1 ⟨rfl, hb1⟩; replace BC := Lib.hid (BC.out.step hb1); replace BN := Lib.hid (BN.out.below hb1 BN.out.lt); clear q0 q1 q2; obtain ⟨q0, q1, q2⟩ := BC.out.edit)
          | (with_reducible refine slG 28 (.tmp 39) rfl ?_))
        refine Stop.mk (wlG (by rfl) _ _ rfl w.heap.size 3 rfl e.p.arr (Edit.part BC.out.2) strP HZ.out ?_)
        go_wp2_with (with_reducible refine slG 28 (.tmp 3) rfl ?_)
        refine Stop.mk (wlG (by rfl) _ _ rfl (w.heap.size + 1) 0 rfl pz.arr BN.out.all strP (by rw [Patch.arr_size]; rfl) ?_)
        go_wp2_with (with_reducible refine stop_bin .neq 28 (.tmp 40) (.tmp 41) 28 rfl ?_)
        refine Stop.mk (wpList_neqS (by rfl) _ _ _ _ rfl e.p.arr pz.arr rfl rfl gP _ ((eq_patch HF.out rfl 9996 _).trans (by rw [hz])) ?_)
        go_wp2_with (first
          | (go_at_call 58; refine (c_ref19_group e.kind _ (by omega) h7).mono ?_; rintro e1 w1 ⟨rfl, hb1⟩; replace BC := Lib.hid (BC.out.step hb1); replace BN := Lib.hid (BN.out.below hb1 BN.out.lt); clear q0 q1 q2; obtain ⟨q0, q1, q2⟩ := BC.out.edit)
          | (go_at_call 59; refine (c_ref19_id e.kind _ (by omega) h7).mono ?_; rintro e1 w1 ⟨rfl, hb1⟩; replace BC := Lib.hid (BC.out.step hb1); replace BN := Lib.hid (BN.out.below hb1 BN.out.lt); clear q0 q1 q2; obtain ⟨q0, q1, q2⟩ := BC.out.edit)
          | (go_at_call 60; refine (c_ref19_patch e.kind _ (by omega) h7).mono ?_; rintro e1 w1 ⟨rfl, hb1⟩; replace BC := Lib.hid (BC.out.step hb1); replace BN := Lib.hid (BN.out.below hb1 BN.out.lt); clear q0 q1 q2; obtain ⟨q0, q1, q2⟩ := BC.out.edit))
        go_ret
        exact RetV.int E.out.symm BC.out.1
end Go.Proofs.YtiedkcijjfmhaaaDoor
