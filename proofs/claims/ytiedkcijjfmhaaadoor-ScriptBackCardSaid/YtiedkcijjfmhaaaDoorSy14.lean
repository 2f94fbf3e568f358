/-
  Lemmas (walks and plain laws), in one text.
-/
import Derived.Test.YtiedkcijjfmhaaaDoorSy7
import Derived.Test.YtiedkcijjfmhaaaDoorSy9
import Derived.Test.YtiedkcijjfmhaaaDoorSy12
namespace Go.Proofs.YtiedkcijjfmhaaaDoor
open Go.RowKit

theorem gOk_iff' {e : Edit} (h : e.gOk = true) : hasG e.kind = false → e.group = 0 := by
  unfold Edit.gOk at h
  simp only [Bool.and_eq_true, Bool.or_eq_true, decide_eq_true_eq] at h
  exact fun hg => h.2.resolve_left (by simp [hg])
theorem iOk_iff' {e : Edit} (h : e.iOk = true) : hasI e.kind = false → e.id = 0 := by
  unfold Edit.iOk at h
  intro hi
  rw [hi] at h
  simpa using h
theorem Edit.code_gi {e : Edit} (h : ¬ (e.gOk = true ∧ e.iOk = true)) : e.code = 1 := by unfold Edit.code; rw [if_neg]; intro h'; exact h ⟨h'.2.2.1, h'.2.2.2⟩
theorem Edit.code_pz {e : Edit} (hp : hasP e.kind = false) (h : e.p ≠ pz) : e.code = 1 := by
  unfold Edit.code
  split
  · rw [hp]; simp
  · rfl
set_option maxHeartbeats 1000000 in
theorem ref19_Check_kind (e : Edit) (w : World) (hk : ¬ (1 ≤ e.kind ∧ e.kind ≤ 7)) : Calls Tryd.prog 30 #[.agg e.arr] w (RetV w (.int .i64 e.code)) := by
  have E := lh (Edit.code_kind hk)
  have BC := lh (At.new w 30 e.arr)
  obtain ⟨q0, q1, q2⟩ := BC.out.edit
  have hk' : e.kind < 1 ∨ (1 ≤ e.kind ∧ 7 < e.kind) := by omega
  clear hk
  rcases hk' with hk | ⟨hk, hk2⟩
  · have k1 : decide (e.kind < 1) = true := by simpa using hk
    clear hk
    go_enter Tryd.func30, Tryd.ntmps30
    go_wp2_with (fail)
    go_ret
    exact RetV.int E.out.symm BC.out.1
  · have k1 : decide (e.kind < 1) = false := by simpa using hk
    have k2 : decide (7 < e.kind) = true := by simpa using hk2
    clear hk hk2
    go_enter Tryd.func30, Tryd.ntmps30
    go_wp2_with (fail)
    go_ret
    exact RetV.int E.out.symm BC.out.1
set_option maxHeartbeats 8000000 in
set_option maxRecDepth 4000 in
theorem ref19_Check_a (e : Edit) (w : World) (hf : e.p.f.length = 8) (h1 : 1 ≤ e.kind) (h7 : e.kind ≤ 7) (hg : hasG e.kind = false) (hg0 : e.group ≠ 0) : Calls Tryd.prog 30 #[.agg e.arr] w (RetV w (.int .i64 e.code)) := by
  have k1 : decide (e.kind < 1) = false := by simpa using h1
  have k2 : decide (7 < e.kind) = false := by simpa using h7
  have HF := lh hf
  have hsz : e.p.arr.size = 26 := by rw [Patch.arr_size, hf]
  have HZ := lh hsz
  clear hsz hf
  have BC0 := lh (At.new w 30 e.arr)
  obtain ⟨q0, q1, q2⟩ := BC0.out.edit
  have E := lh (Edit.code_gi (e := e) (fun h => hg0 ((gOk_iff' h.1) hg)))
  have kg : (e.group != 0) = true := by simpa using hg0
  clear hg0
  go_enter Tryd.func30, Tryd.ntmps30
  go_wp2_with (with_reducible refine stS 28 (.tmp 3) (.tmp 12) rfl rfl ?_)
  refine Stop.mk (wsB rfl _ _ _ rfl (w.heap.size + 1) _ (by simp [go_sem]) rfl _ (by simpa using Blk.new (w.alloc _) _ _) strP rfl rfl (by simp [Value.oneCell']) ?_)
  intro w2 hb2 hk2
  have BC := lh (BC0.out.step (((Below.refl _ _).alloc (Nat.le_refl _) _).trans (hk2.oneB (by simp) (by simp))))
  have BN := lh (show Blk w2 (w.heap.size + 1) pz.arr by rw [pz_cells]; exact hb2)
  clear hb2 hk2 q0 q1 q2
  obtain ⟨q0, q1, q2⟩ := BC.out.edit
  go_wp2_with (first
    | (go_at_call 58; refine (c_ref19_group e.kind _ (by omega) h7).mono ?_; rintro e1 w1 ⟨rfl, hb1⟩; replace BC := lh (BC.out.step hb1); replace BN := lh (BN.out.below hb1 BN.out.lt); clear q0 q1 q2; obtain ⟨q0, q1, q2⟩ := BC.out.edit))
  go_ret
  exact RetV.int E.out.symm BC.out.1
set_option maxHeartbeats 8000000 in
set_option maxRecDepth 4000 in
theorem ref19_Check_b (e : Edit) (w : World) (hf : e.p.f.length = 8) (h1 : 1 ≤ e.kind) (h7 : e.kind ≤ 7) (hg : hasG e.kind = true ∨ (hasG e.kind = false ∧ e.group = 0)) (hi : hasI e.kind = false) (hi0 : e.id ≠ 0) : Calls Tryd.prog 30 #[.agg e.arr] w (RetV w (.int .i64 e.code)) := by
  have k1 : decide (e.kind < 1) = false := by simpa using h1
  have k2 : decide (7 < e.kind) = false := by simpa using h7
  have HF := lh hf
  have hsz : e.p.arr.size = 26 := by rw [Patch.arr_size, hf]
  have HZ := lh hsz
  clear hsz hf
  have BC0 := lh (At.new w 30 e.arr)
  obtain ⟨q0, q1, q2⟩ := BC0.out.edit
  have E := lh (Edit.code_gi (e := e) (fun h => hi0 ((iOk_iff' h.2) hi)))
  have ki : (e.id != 0) = true := by simpa using hi0
  clear hi0
  rcases hg with hg | ⟨hg, hg0⟩
  all_goals
    (try (have kg : (e.group != 0) = false := by simpa using hg0))
    (try clear hg0)
    go_enter Tryd.func30, Tryd.ntmps30
    go_wp2_with (with_reducible refine stS 28 (.tmp 3) (.tmp 12) rfl rfl ?_)
    refine Stop.mk (wsB rfl _ _ _ rfl (w.heap.size + 1) _ (by simp [go_sem]) rfl _ (by simpa using Blk.new (w.alloc _) _ _) strP rfl rfl (by simp [Value.oneCell']) ?_)
    intro w2 hb2 hk2
    have BC := lh (BC0.out.step (((Below.refl _ _).alloc (Nat.le_refl _) _).trans (hk2.oneB (by simp) (by simp))))
    have BN := lh (show Blk w2 (w.heap.size + 1) pz.arr by rw [pz_cells]; exact hb2)
    clear hb2 hk2 q0 q1 q2
    obtain ⟨q0, q1, q2⟩ := BC.out.edit
    go_wp2_with (first
      | (go_at_call 58; refine (c_ref19_group e.kind _ (by omega) h7).mono ?_; rintro e1 w1 ⟨rfl, hb1⟩; replace BC := lh (BC.out.step hb1); replace BN := lh (BN.out.below hb1 BN.out.lt); clear q0 q1 q2; obtain ⟨q0, q1, q2⟩ := BC.out.edit)
      | (go_at_call 59; refine (c_ref19_id e.kind _ (by omega) h7).mono ?_; rintro e1 w1 ⟨rfl, hb1⟩; replace BC := lh (BC.out.step hb1); replace BN := lh (BN.out.below hb1 BN.out.lt); clear q0 q1 q2; obtain ⟨q0, q1, q2⟩ := BC.out.edit))
    go_ret
    exact RetV.int E.out.symm BC.out.1
set_option maxHeartbeats 8000000 in
set_option maxRecDepth 4000 in
theorem ref19_Check_c (e : Edit) (w : World) (hf : e.p.f.length = 8) (h1 : 1 ≤ e.kind) (h7 : e.kind ≤ 7) (hg : hasG e.kind = true ∨ (hasG e.kind = false ∧ e.group = 0)) (hi : hasI e.kind = true ∨ (hasI e.kind = false ∧ e.id = 0)) (hp : hasP e.kind = false) (hp0 : e.p ≠ pz) : Calls Tryd.prog 30 #[.agg e.arr] w (RetV w (.int .i64 e.code)) := by
  have k1 : decide (e.kind < 1) = false := by simpa using h1
  have k2 : decide (7 < e.kind) = false := by simpa using h7
  have HF := lh hf
  have hsz : e.p.arr.size = 26 := by rw [Patch.arr_size, hf]
  have HZ := lh hsz
  clear hsz hf
  have BC0 := lh (At.new w 30 e.arr)
  obtain ⟨q0, q1, q2⟩ := BC0.out.edit
  have E := lh (Edit.code_pz hp hp0)
  have hz : decide (e.p = pz) = false := by simpa using hp0
  clear hp0
  rcases hg with hg | ⟨hg, hg0⟩
  all_goals
    (try (have kg : (e.group != 0) = false := by simpa using hg0))
    (try clear hg0)
    rcases hi with hi | ⟨hi, hi0⟩
    all_goals
      (try (have ki : (e.id != 0) = false := by simpa using hi0))
      (try clear hi0)
      go_enter Tryd.func30, Tryd.ntmps30
      go_wp2_with (with_reducible refine stS 28 (.tmp 3) (.tmp 12) rfl rfl ?_)
      refine Stop.mk (wsB rfl _ _ _ rfl (w.heap.size + 1) _ (by simp [go_sem]) rfl _ (by simpa using Blk.new (w.alloc _) _ _) strP rfl rfl (by simp [Value.oneCell']) ?_)
      intro w2 hb2 hk2
      have BC := lh (BC0.out.step (((Below.refl _ _).alloc (Nat.le_refl _) _).trans (hk2.oneB (by simp) (by simp))))
      have BN := lh (show Blk w2 (w.heap.size + 1) pz.arr by rw [pz_cells]; exact hb2)
      clear hb2 hk2 q0 q1 q2
      obtain ⟨q0, q1, q2⟩ := BC.out.edit
      go_wp2_with (first
        | (go_at_call 58; refine (c_ref19_group e.kind _ (by omega) h7).mono ?_; rintro e1 w1 ⟨rfl, hb1⟩; replace BC := lh (BC.out.step hb1); replace BN := lh (BN.out.below hb1 BN.out.lt); clear q0 q1 q2; obtain ⟨q0, q1, q2⟩ := BC.out.edit)
        | (go_at_call 59; refine (c_ref19_id e.kind _ (by omega) h7).mono ?_; rintro e1 w1 ⟨rfl, hb1⟩; replace BC := lh (BC.out.step hb1); replace BN := lh (BN.out.below hb1 BN.out.lt); clear q0 q1 q2; obtain ⟨q0, q1, q2⟩ := BC.out.edit)
        | (go_at_call 60; refine (c_ref19_patch e.kind _ (by omega) h7).mono ?_; rintro e1 w1 ⟨rfl, hb1⟩; replace BC := lh (BC.out.step hb1); replace BN := lh (BN.out.below hb1 BN.out.lt); clear q0 q1 q2; obtain ⟨q0, q1, q2⟩ := BC.out.edit)
        | (with_reducible refine slG 28 (.tmp 39) rfl ?_))
      refine Stop.mk (wlG (by rfl) _ _ rfl w.heap.size 3 rfl e.p.arr (Edit.part BC.out.2) strP HZ.out ?_)
      go_wp2_with (with_reducible refine slG 28 (.tmp 3) rfl ?_)
      refine Stop.mk (wlG (by rfl) _ _ rfl (w.heap.size + 1) 0 rfl pz.arr BN.out.all strP (by rw [Patch.arr_size]; rfl) ?_)
      go_wp2_with (with_reducible refine stop_bin .neq 28 (.tmp 40) (.tmp 41) 28 rfl ?_)
      refine Stop.mk (wpList_neqS (by rfl) _ _ _ _ rfl e.p.arr pz.arr rfl rfl gP _ ((eq_patch HF.out rfl 9996 _).trans (by rw [hz])) ?_)
      go_wp2_with (first
        | (go_at_call 58; refine (c_ref19_group e.kind _ (by omega) h7).mono ?_; rintro e1 w1 ⟨rfl, hb1⟩; replace BC := lh (BC.out.step hb1); replace BN := lh (BN.out.below hb1 BN.out.lt); clear q0 q1 q2; obtain ⟨q0, q1, q2⟩ := BC.out.edit)
        | (go_at_call 59; refine (c_ref19_id e.kind _ (by omega) h7).mono ?_; rintro e1 w1 ⟨rfl, hb1⟩; replace BC := lh (BC.out.step hb1); replace BN := lh (BN.out.below hb1 BN.out.lt); clear q0 q1 q2; obtain ⟨q0, q1, q2⟩ := BC.out.edit)
        | (go_at_call 60; refine (c_ref19_patch e.kind _ (by omega) h7).mono ?_; rintro e1 w1 ⟨rfl, hb1⟩; replace BC := lh (BC.out.step hb1); replace BN := lh (BN.out.below hb1 BN.out.lt); clear q0 q1 q2; obtain ⟨q0, q1, q2⟩ := BC.out.edit))
      go_ret
      exact RetV.int E.out.symm BC.out.1
open Go.RowKit

set_option maxHeartbeats 8000000 in
set_option maxRecDepth 4000 in
theorem ref19_Check_dP (e : Edit) (w : World) (hf : e.p.f.length = 8) (h1 : 1 ≤ e.kind) (h7 : e.kind ≤ 7) (hg : hasG e.kind = true ∨ (hasG e.kind = false ∧ e.group = 0)) (hi : hasI e.kind = true ∨ (hasI e.kind = false ∧ e.id = 0)) (hr : e.group < 0 ∨ (0 ≤ e.group ∧ 16 ≤ e.group)) (hp : hasP e.kind = true) : Calls Tryd.prog 30 #[.agg e.arr] w (RetV w (.int .i64 e.code)) := by
  have k1 : decide (e.kind < 1) = false := by simpa using h1
  have k2 : decide (7 < e.kind) = false := by simpa using h7
  have HF := lh hf
  have hsz : e.p.arr.size = 26 := by rw [Patch.arr_size, hf]
  have HZ := lh hsz
  clear hsz hf
  have BC0 := lh (At.new w 30 e.arr)
  obtain ⟨q0, q1, q2⟩ := BC0.out.edit
  have E := lh (Edit.code_gi (e := e) (fun h => by have := (gOk_ok h.1).1; have := (gOk_ok h.1).2.1; omega))
  have hr' : decide (e.group < 0) = true ∨ (decide (e.group < 0) = false ∧ decide (16 ≤ e.group) = true) := by
    rcases hr with hr | ⟨ha, hr⟩
    · exact .inl (by simpa using hr)
    · exact .inr ⟨by simpa using ha, by simpa using hr⟩
  clear hr
  rcases hg with hg | ⟨hg, hg0⟩
  all_goals
    (try (have kg : (e.group != 0) = false := by simpa using hg0))
    (try clear hg0)
    rcases hi with hi | ⟨hi, hi0⟩
    all_goals
      (try (have ki : (e.id != 0) = false := by simpa using hi0))
      rcases hr' with hr | ⟨ha, hr⟩
      all_goals
        go_enter Tryd.func30, Tryd.ntmps30
        go_wp2_with (with_reducible refine stS 28 (.tmp 3) (.tmp 12) rfl rfl ?_)
        refine Stop.mk (wsB rfl _ _ _ rfl (w.heap.size + 1) _ (by simp [go_sem]) rfl _ (by simpa using Blk.new (w.alloc _) _ _) strP rfl rfl (by simp [Value.oneCell']) ?_)
        intro w2 hb2 hk2
        have BC := lh (BC0.out.step (((Below.refl _ _).alloc (Nat.le_refl _) _).trans (hk2.oneB (by simp) (by simp))))
        have BN := lh (show Blk w2 (w.heap.size + 1) pz.arr by rw [pz_cells]; exact hb2)
        clear hb2 hk2 q0 q1 q2
        obtain ⟨q0, q1, q2⟩ := BC.out.edit
        go_wp2_with (first
          | (go_at_call 58; refine (c_ref19_group e.kind _ (by omega) h7).mono ?_; rintro e1 w1 ⟨rfl, hb1⟩; replace BC := lh (BC.out.step hb1); replace BN := lh (BN.out.below hb1 BN.out.lt); clear q0 q1 q2; obtain ⟨q0, q1, q2⟩ := BC.out.edit)
          | (go_at_call 59; refine (c_ref19_id e.kind _ (by omega) h7).mono ?_; rintro e1 w1 ⟨rfl, hb1⟩; replace BC := lh (BC.out.step hb1); replace BN := lh (BN.out.below hb1 BN.out.lt); clear q0 q1 q2; obtain ⟨q0, q1, q2⟩ := BC.out.edit)
          | (go_at_call 60; refine (c_ref19_patch e.kind _ (by omega) h7).mono ?_; rintro e1 w1 ⟨rfl, hb1⟩; replace BC := lh (BC.out.step hb1); replace BN := lh (BN.out.below hb1 BN.out.lt); clear q0 q1 q2; obtain ⟨q0, q1, q2⟩ := BC.out.edit))
        go_ret
        exact RetV.int E.out.symm BC.out.1
set_option maxHeartbeats 8000000 in
set_option maxRecDepth 4000 in
theorem ref19_Check_dN (e : Edit) (w : World) (hf : e.p.f.length = 8) (h1 : 1 ≤ e.kind) (h7 : e.kind ≤ 7) (hg : hasG e.kind = true ∨ (hasG e.kind = false ∧ e.group = 0)) (hi : hasI e.kind = true ∨ (hasI e.kind = false ∧ e.id = 0)) (hr : e.group < 0 ∨ (0 ≤ e.group ∧ 16 ≤ e.group)) (hp : hasP e.kind = false) (hp0 : e.p = pz) : Calls Tryd.prog 30 #[.agg e.arr] w (RetV w (.int .i64 e.code)) := by
  have k1 : decide (e.kind < 1) = false := by simpa using h1
  have k2 : decide (7 < e.kind) = false := by simpa using h7
  have HF := lh hf
  have hsz : e.p.arr.size = 26 := by rw [Patch.arr_size, hf]
  have HZ := lh hsz
  clear hsz hf
  have BC0 := lh (At.new w 30 e.arr)
  obtain ⟨q0, q1, q2⟩ := BC0.out.edit
  have E := lh (Edit.code_gi (e := e) (fun h => by have := (gOk_ok h.1).1; have := (gOk_ok h.1).2.1; omega))
  have hr' : decide (e.group < 0) = true ∨ (decide (e.group < 0) = false ∧ decide (16 ≤ e.group) = true) := by
    rcases hr with hr | ⟨ha, hr⟩
    · exact .inl (by simpa using hr)
    · exact .inr ⟨by simpa using ha, by simpa using hr⟩
  clear hr
  have hz : decide (e.p = pz) = true := by simpa using hp0
  clear hp0
  rcases hg with hg | ⟨hg, hg0⟩
  all_goals
    (try (have kg : (e.group != 0) = false := by simpa using hg0))
    (try clear hg0)
    rcases hi with hi | ⟨hi, hi0⟩
    all_goals
      (try (have ki : (e.id != 0) = false := by simpa using hi0))
      rcases hr' with hr | ⟨ha, hr⟩
      all_goals
        go_enter Tryd.func30, Tryd.ntmps30
        go_wp2_with (with_reducible refine stS 28 (.tmp 3) (.tmp 12) rfl rfl ?_)
        refine Stop.mk (wsB rfl _ _ _ rfl (w.heap.size + 1) _ (by simp [go_sem]) rfl _ (by simpa using Blk.new (w.alloc _) _ _) strP rfl rfl (by simp [Value.oneCell']) ?_)
        intro w2 hb2 hk2
        have BC := lh (BC0.out.step (((Below.refl _ _).alloc (Nat.le_refl _) _).trans (hk2.oneB (by simp) (by simp))))
        have BN := lh (show Blk w2 (w.heap.size + 1) pz.arr by rw [pz_cells]; exact hb2)
        clear hb2 hk2 q0 q1 q2
        obtain ⟨q0, q1, q2⟩ := BC.out.edit
        go_wp2_with (first
          | (go_at_call 58; refine (c_ref19_group e.kind _ (by omega) h7).mono ?_; rintro e1 w1 ⟨rfl, hb1⟩; replace BC := lh (BC.out.step hb1); replace BN := lh (BN.out.below hb1 BN.out.lt); clear q0 q1 q2; obtain ⟨q0, q1, q2⟩ := BC.out.edit)
          | (go_at_call 59; refine (c_ref19_id e.kind _ (by omega) h7).mono ?_; rintro e1 w1 ⟨rfl, hb1⟩; replace BC := lh (BC.out.step hb1); replace BN := lh (BN.out.below hb1 BN.out.lt); clear q0 q1 q2; obtain ⟨q0, q1, q2⟩ := BC.out.edit)
          | (go_at_call 60; refine (c_ref19_patch e.kind _ (by omega) h7).mono ?_; rintro e1 w1 ⟨rfl, hb1⟩; replace BC := lh (BC.out.step hb1); replace BN := lh (BN.out.below hb1 BN.out.lt); clear q0 q1 q2; obtain ⟨q0, q1, q2⟩ := BC.out.edit)
          | (with_reducible refine slG 28 (.tmp 39) rfl ?_))
        refine Stop.mk (wlG (by rfl) _ _ rfl w.heap.size 3 rfl e.p.arr (Edit.part BC.out.2) strP HZ.out ?_)
        go_wp2_with (with_reducible refine slG 28 (.tmp 3) rfl ?_)
        refine Stop.mk (wlG (by rfl) _ _ rfl (w.heap.size + 1) 0 rfl pz.arr BN.out.all strP (by rw [Patch.arr_size]; rfl) ?_)
        go_wp2_with (with_reducible refine stop_bin .neq 28 (.tmp 40) (.tmp 41) 28 rfl ?_)
        refine Stop.mk (wpList_neqS (by rfl) _ _ _ _ rfl e.p.arr pz.arr rfl rfl gP _ ((eq_patch HF.out rfl 9996 _).trans (by rw [hz])) ?_)
        go_wp2_with (first
          | (go_at_call 58; refine (c_ref19_group e.kind _ (by omega) h7).mono ?_; rintro e1 w1 ⟨rfl, hb1⟩; replace BC := lh (BC.out.step hb1); replace BN := lh (BN.out.below hb1 BN.out.lt); clear q0 q1 q2; obtain ⟨q0, q1, q2⟩ := BC.out.edit)
          | (go_at_call 59; refine (c_ref19_id e.kind _ (by omega) h7).mono ?_; rintro e1 w1 ⟨rfl, hb1⟩; replace BC := lh (BC.out.step hb1); replace BN := lh (BN.out.below hb1 BN.out.lt); clear q0 q1 q2; obtain ⟨q0, q1, q2⟩ := BC.out.edit)
          | (go_at_call 60; refine (c_ref19_patch e.kind _ (by omega) h7).mono ?_; rintro e1 w1 ⟨rfl, hb1⟩; replace BC := lh (BC.out.step hb1); replace BN := lh (BN.out.below hb1 BN.out.lt); clear q0 q1 q2; obtain ⟨q0, q1, q2⟩ := BC.out.edit))
        go_ret
        exact RetV.int E.out.symm BC.out.1
open Go.RowKit

set_option maxHeartbeats 8000000 in
set_option maxRecDepth 4000 in
theorem ref19_Check_fP (e : Edit) (w : World) (hf : e.p.f.length = 8) (h1 : 1 ≤ e.kind) (h7 : e.kind ≤ 7) (hg : hasG e.kind = true ∨ (hasG e.kind = false ∧ e.group = 0)) (hi : hasI e.kind = true) (g0 : 0 ≤ e.group) (g1 : e.group < 16) (hr : e.id < 1 ∨ (1 ≤ e.id ∧ 1073741824 ≤ e.id)) (hp : hasP e.kind = true) : Calls Tryd.prog 30 #[.agg e.arr] w (RetV w (.int .i64 e.code)) := by
  have k1 : decide (e.kind < 1) = false := by simpa using h1
  have k2 : decide (7 < e.kind) = false := by simpa using h7
  have HF := lh hf
  have hsz : e.p.arr.size = 26 := by rw [Patch.arr_size, hf]
  have HZ := lh hsz
  clear hsz hf
  have BC0 := lh (At.new w 30 e.arr)
  obtain ⟨q0, q1, q2⟩ := BC0.out.edit
  have E := lh (Edit.code_gi (e := e) (fun h => by have := iOk_ok h.2; rw [hi] at this; simp only [true_and, Bool.true_eq_false, false_and, or_false] at this; omega))
  have ka : decide (e.group < 0) = false := by simpa using g0
  have kb : decide (16 ≤ e.group) = false := by simpa using g1
  have hr' : decide (e.id < 1) = true ∨ (decide (e.id < 1) = false ∧ decide (1073741824 ≤ e.id) = true) := by
    rcases hr with hr | ⟨ha, hr⟩
    · exact .inl (by simpa using hr)
    · exact .inr ⟨by simpa using ha, by simpa using hr⟩
  clear hr
  rcases hg with hg | ⟨hg, hg0⟩
  all_goals
    (try (have kg : (e.group != 0) = false := by simpa using hg0))
    (try clear hg0)
    rcases hr' with hr | ⟨ha, hr⟩
    all_goals
      go_enter Tryd.func30, Tryd.ntmps30
      go_wp2_with (with_reducible refine stS 28 (.tmp 3) (.tmp 12) rfl rfl ?_)
      refine Stop.mk (wsB rfl _ _ _ rfl (w.heap.size + 1) _ (by simp [go_sem]) rfl _ (by simpa using Blk.new (w.alloc _) _ _) strP rfl rfl (by simp [Value.oneCell']) ?_)
      intro w2 hb2 hk2
      have BC := lh (BC0.out.step (((Below.refl _ _).alloc (Nat.le_refl _) _).trans (hk2.oneB (by simp) (by simp))))
      have BN := lh (show Blk w2 (w.heap.size + 1) pz.arr by rw [pz_cells]; exact hb2)
      clear hb2 hk2 q0 q1 q2
      obtain ⟨q0, q1, q2⟩ := BC.out.edit
      go_wp2_with (first
        | (go_at_call 58; refine (c_ref19_group e.kind _ (by omega) h7).mono ?_; rintro e1 w1 ⟨rfl, hb1⟩; replace BC := lh (BC.out.step hb1); replace BN := lh (BN.out.below hb1 BN.out.lt); clear q0 q1 q2; obtain ⟨q0, q1, q2⟩ := BC.out.edit)
        | (go_at_call 59; refine (c_ref19_id e.kind _ (by omega) h7).mono ?_; rintro e1 w1 ⟨rfl, hb1⟩; replace BC := lh (BC.out.step hb1); replace BN := lh (BN.out.below hb1 BN.out.lt); clear q0 q1 q2; obtain ⟨q0, q1, q2⟩ := BC.out.edit)
        | (go_at_call 60; refine (c_ref19_patch e.kind _ (by omega) h7).mono ?_; rintro e1 w1 ⟨rfl, hb1⟩; replace BC := lh (BC.out.step hb1); replace BN := lh (BN.out.below hb1 BN.out.lt); clear q0 q1 q2; obtain ⟨q0, q1, q2⟩ := BC.out.edit))
      go_ret
      exact RetV.int E.out.symm BC.out.1
set_option maxHeartbeats 8000000 in
set_option maxRecDepth 4000 in
theorem ref19_Check_fN (e : Edit) (w : World) (hf : e.p.f.length = 8) (h1 : 1 ≤ e.kind) (h7 : e.kind ≤ 7) (hg : hasG e.kind = true ∨ (hasG e.kind = false ∧ e.group = 0)) (hi : hasI e.kind = true) (g0 : 0 ≤ e.group) (g1 : e.group < 16) (hr : e.id < 1 ∨ (1 ≤ e.id ∧ 1073741824 ≤ e.id)) (hp : hasP e.kind = false) (hp0 : e.p = pz) : Calls Tryd.prog 30 #[.agg e.arr] w (RetV w (.int .i64 e.code)) := by
  have k1 : decide (e.kind < 1) = false := by simpa using h1
  have k2 : decide (7 < e.kind) = false := by simpa using h7
  have HF := lh hf
  have hsz : e.p.arr.size = 26 := by rw [Patch.arr_size, hf]
  have HZ := lh hsz
  clear hsz hf
  have BC0 := lh (At.new w 30 e.arr)
  obtain ⟨q0, q1, q2⟩ := BC0.out.edit
  have E := lh (Edit.code_gi (e := e) (fun h => by have := iOk_ok h.2; rw [hi] at this; simp only [true_and, Bool.true_eq_false, false_and, or_false] at this; omega))
  have ka : decide (e.group < 0) = false := by simpa using g0
  have kb : decide (16 ≤ e.group) = false := by simpa using g1
  have hr' : decide (e.id < 1) = true ∨ (decide (e.id < 1) = false ∧ decide (1073741824 ≤ e.id) = true) := by
    rcases hr with hr | ⟨ha, hr⟩
    · exact .inl (by simpa using hr)
    · exact .inr ⟨by simpa using ha, by simpa using hr⟩
  clear hr
  have hz : decide (e.p = pz) = true := by simpa using hp0
  clear hp0
  rcases hg with hg | ⟨hg, hg0⟩
  all_goals
    (try (have kg : (e.group != 0) = false := by simpa using hg0))
    (try clear hg0)
    rcases hr' with hr | ⟨ha, hr⟩
    all_goals
      go_enter Tryd.func30, Tryd.ntmps30
      go_wp2_with (with_reducible refine stS 28 (.tmp 3) (.tmp 12) rfl rfl ?_)
      refine Stop.mk (wsB rfl _ _ _ rfl (w.heap.size + 1) _ (by simp [go_sem]) rfl _ (by simpa using Blk.new (w.alloc _) _ _) strP rfl rfl (by simp [Value.oneCell']) ?_)
      intro w2 hb2 hk2
      have BC := lh (BC0.out.step (((Below.refl _ _).alloc (Nat.le_refl _) _).trans (hk2.oneB (by simp) (by simp))))
      have BN := lh (show Blk w2 (w.heap.size + 1) pz.arr by rw [pz_cells]; exact hb2)
      clear hb2 hk2 q0 q1 q2
      obtain ⟨q0, q1, q2⟩ := BC.out.edit
      go_wp2_with (first
        | (go_at_call 58; refine (c_ref19_group e.kind _ (by omega) h7).mono ?_; rintro e1 w1 ⟨rfl, hb1⟩; replace BC := lh (BC.out.step hb1); replace BN := lh (BN.out.below hb1 BN.out.lt); clear q0 q1 q2; obtain ⟨q0, q1, q2⟩ := BC.out.edit)
        | (go_at_call 59; refine (c_ref19_id e.kind _ (by omega) h7).mono ?_; rintro e1 w1 ⟨rfl, hb1⟩; replace BC := lh (BC.out.step hb1); replace BN := lh (BN.out.below hb1 BN.out.lt); clear q0 q1 q2; obtain ⟨q0, q1, q2⟩ := BC.out.edit)
        | (go_at_call 60; refine (c_ref19_patch e.kind _ (by omega) h7).mono ?_; rintro e1 w1 ⟨rfl, hb1⟩; replace BC := lh (BC.out.step hb1); replace BN := lh (BN.out.below hb1 BN.out.lt); clear q0 q1 q2; obtain ⟨q0, q1, q2⟩ := BC.out.edit)
        | (with_reducible refine slG 28 (.tmp 39) rfl ?_))
      refine Stop.mk (wlG (by rfl) _ _ rfl w.heap.size 3 rfl e.p.arr (Edit.part BC.out.2) strP HZ.out ?_)
      go_wp2_with (with_reducible refine slG 28 (.tmp 3) rfl ?_)
      refine Stop.mk (wlG (by rfl) _ _ rfl (w.heap.size + 1) 0 rfl pz.arr BN.out.all strP (by rw [Patch.arr_size]; rfl) ?_)
      go_wp2_with (with_reducible refine stop_bin .neq 28 (.tmp 40) (.tmp 41) 28 rfl ?_)
      refine Stop.mk (wpList_neqS (by rfl) _ _ _ _ rfl e.p.arr pz.arr rfl rfl gP _ ((eq_patch HF.out rfl 9996 _).trans (by rw [hz])) ?_)
      go_wp2_with (first
        | (go_at_call 58; refine (c_ref19_group e.kind _ (by omega) h7).mono ?_; rintro e1 w1 ⟨rfl, hb1⟩; replace BC := lh (BC.out.step hb1); replace BN := lh (BN.out.below hb1 BN.out.lt); clear q0 q1 q2; obtain ⟨q0, q1, q2⟩ := BC.out.edit)
        | (go_at_call 59; refine (c_ref19_id e.kind _ (by omega) h7).mono ?_; rintro e1 w1 ⟨rfl, hb1⟩; replace BC := lh (BC.out.step hb1); replace BN := lh (BN.out.below hb1 BN.out.lt); clear q0 q1 q2; obtain ⟨q0, q1, q2⟩ := BC.out.edit)
        | (go_at_call 60; refine (c_ref19_patch e.kind _ (by omega) h7).mono ?_; rintro e1 w1 ⟨rfl, hb1⟩; replace BC := lh (BC.out.step hb1); replace BN := lh (BN.out.below hb1 BN.out.lt); clear q0 q1 q2; obtain ⟨q0, q1, q2⟩ := BC.out.edit))
      go_ret
      exact RetV.int E.out.symm BC.out.1
open Go.RowKit

set_option maxHeartbeats 8000000 in
set_option maxRecDepth 4000 in
theorem ref19_Check_kP (e : Edit) (w : World) (hf : e.p.f.length = 8) (hs : ∀ x ∈ e.p.f, x.s.length ≤ 4294967000) (hm : e.p.mask < 4294967296) (h1 : 1 ≤ e.kind) (h7 : e.kind ≤ 7) (hg : hasG e.kind = true ∨ (hasG e.kind = false ∧ e.group = 0)) (hi : hasI e.kind = true ∧ 1 ≤ e.id ∧ e.id < 1073741824 ∨ (hasI e.kind = false ∧ e.id = 0)) (hok : e.gOk = true ∧ e.iOk = true) (hp : hasP e.kind = true) : Calls Tryd.prog 30 #[.agg e.arr] w (RetV w (.int .i64 e.code)) := by
  have k1 : decide (e.kind < 1) = false := by simpa using h1
  have k2 : decide (7 < e.kind) = false := by simpa using h7
  have HF := lh hf
  have hsz : e.p.arr.size = 26 := by rw [Patch.arr_size, hf]
  have HZ := lh hsz
  clear hsz hf
  have BC0 := lh (At.new w 30 e.arr)
  obtain ⟨q0, q1, q2⟩ := BC0.out.edit
  have E := lh (Edit.code_p h1 h7 hok.1 hok.2)
  obtain ⟨g0, g1, -⟩ := gOk_ok hok.1
  have ka : decide (e.group < 0) = false := by simpa using g0
  have kb : decide (16 ≤ e.group) = false := by simpa using g1
  clear hok g0 g1
  rcases hg with hg | ⟨hg, hg0⟩
  all_goals
    (try (have kg : (e.group != 0) = false := by simpa using hg0))
    (try clear hg0)
    rcases hi with ⟨hi, i1, i2⟩ | ⟨hi, hi0⟩
    all_goals
      (try (have ki : (e.id != 0) = false := by simpa using hi0))
      (try (have ki1 : decide (e.id < 1) = false := by simpa using i1))
      (try (have ki2 : decide (1073741824 ≤ e.id) = false := by simpa using i2))
      (try clear hi0)
      (try clear i1 i2)
      go_enter Tryd.func30, Tryd.ntmps30
      go_wp2_with (with_reducible refine stS 28 (.tmp 3) (.tmp 12) rfl rfl ?_)
      refine Stop.mk (wsB rfl _ _ _ rfl (w.heap.size + 1) _ (by simp [go_sem]) rfl _ (by simpa using Blk.new (w.alloc _) _ _) strP rfl rfl (by simp [Value.oneCell']) ?_)
      intro w2 hb2 hk2
      have BC := lh (BC0.out.step (((Below.refl _ _).alloc (Nat.le_refl _) _).trans (hk2.oneB (by simp) (by simp))))
      have BN := lh (show Blk w2 (w.heap.size + 1) pz.arr by rw [pz_cells]; exact hb2)
      clear hb2 hk2 q0 q1 q2
      obtain ⟨q0, q1, q2⟩ := BC.out.edit
      go_wp2_with (first
        | (go_at_call 58; refine (c_ref19_group e.kind _ (by omega) h7).mono ?_; rintro e1 w1 ⟨rfl, hb1⟩; replace BC := lh (BC.out.step hb1); replace BN := lh (BN.out.below hb1 BN.out.lt); clear q0 q1 q2; obtain ⟨q0, q1, q2⟩ := BC.out.edit)
        | (go_at_call 59; refine (c_ref19_id e.kind _ (by omega) h7).mono ?_; rintro e1 w1 ⟨rfl, hb1⟩; replace BC := lh (BC.out.step hb1); replace BN := lh (BN.out.below hb1 BN.out.lt); clear q0 q1 q2; obtain ⟨q0, q1, q2⟩ := BC.out.edit)
        | (go_at_call 60; refine (c_ref19_patch e.kind _ (by omega) h7).mono ?_; rintro e1 w1 ⟨rfl, hb1⟩; replace BC := lh (BC.out.step hb1); replace BN := lh (BN.out.below hb1 BN.out.lt); clear q0 q1 q2; obtain ⟨q0, q1, q2⟩ := BC.out.edit)
        | (with_reducible refine stop_load 28 (.tmp 71) rfl rfl ?_))
      refine Stop.mk (wpList_loadAt rfl _ _ rfl w.heap.size 3 rfl e.p.arr (Edit.part BC.out.2) strP HZ.out ?_)
      go_wp2_with (first
        | (go_at_call 33; refine (c_ref06_CheckPatch e.p _ hm HF.out hs).mono ?_; rintro e1 w1 ⟨rfl, hb1⟩; replace BC := lh (BC.out.step hb1)))
      go_ret
      exact RetV.int (by rw [E.out, hp, if_pos rfl]) BC.out.1
set_option maxHeartbeats 8000000 in
set_option maxRecDepth 4000 in
theorem ref19_Check_kN (e : Edit) (w : World) (hf : e.p.f.length = 8) (_hs : ∀ x ∈ e.p.f, x.s.length ≤ 4294967000) (_hm : e.p.mask < 4294967296) (h1 : 1 ≤ e.kind) (h7 : e.kind ≤ 7) (hg : hasG e.kind = true ∨ (hasG e.kind = false ∧ e.group = 0)) (hi : hasI e.kind = true ∧ 1 ≤ e.id ∧ e.id < 1073741824 ∨ (hasI e.kind = false ∧ e.id = 0)) (hok : e.gOk = true ∧ e.iOk = true) (hp : hasP e.kind = false) (hp0 : e.p = pz) : Calls Tryd.prog 30 #[.agg e.arr] w (RetV w (.int .i64 e.code)) := by
  have k1 : decide (e.kind < 1) = false := by simpa using h1
  have k2 : decide (7 < e.kind) = false := by simpa using h7
  have HF := lh hf
  have hsz : e.p.arr.size = 26 := by rw [Patch.arr_size, hf]
  have HZ := lh hsz
  clear hsz hf
  have BC0 := lh (At.new w 30 e.arr)
  obtain ⟨q0, q1, q2⟩ := BC0.out.edit
  have E := lh (Edit.code_p h1 h7 hok.1 hok.2)
  obtain ⟨g0, g1, -⟩ := gOk_ok hok.1
  have ka : decide (e.group < 0) = false := by simpa using g0
  have kb : decide (16 ≤ e.group) = false := by simpa using g1
  clear hok g0 g1
  have hz : decide (e.p = pz) = true := by simpa using hp0
  clear hp0
  rcases hg with hg | ⟨hg, hg0⟩
  all_goals
    (try (have kg : (e.group != 0) = false := by simpa using hg0))
    (try clear hg0)
    rcases hi with ⟨hi, i1, i2⟩ | ⟨hi, hi0⟩
    all_goals
      (try (have ki : (e.id != 0) = false := by simpa using hi0))
      (try (have ki1 : decide (e.id < 1) = false := by simpa using i1))
      (try (have ki2 : decide (1073741824 ≤ e.id) = false := by simpa using i2))
      (try clear hi0)
      (try clear i1 i2)
      go_enter Tryd.func30, Tryd.ntmps30
      go_wp2_with (with_reducible refine stS 28 (.tmp 3) (.tmp 12) rfl rfl ?_)
      refine Stop.mk (wsB rfl _ _ _ rfl (w.heap.size + 1) _ (by simp [go_sem]) rfl _ (by simpa using Blk.new (w.alloc _) _ _) strP rfl rfl (by simp [Value.oneCell']) ?_)
      intro w2 hb2 hk2
      have BC := lh (BC0.out.step (((Below.refl _ _).alloc (Nat.le_refl _) _).trans (hk2.oneB (by simp) (by simp))))
      have BN := lh (show Blk w2 (w.heap.size + 1) pz.arr by rw [pz_cells]; exact hb2)
      clear hb2 hk2 q0 q1 q2
      obtain ⟨q0, q1, q2⟩ := BC.out.edit
      go_wp2_with (first
        | (go_at_call 58; refine (c_ref19_group e.kind _ (by omega) h7).mono ?_; rintro e1 w1 ⟨rfl, hb1⟩; replace BC := lh (BC.out.step hb1); replace BN := lh (BN.out.below hb1 BN.out.lt); clear q0 q1 q2; obtain ⟨q0, q1, q2⟩ := BC.out.edit)
        | (go_at_call 59; refine (c_ref19_id e.kind _ (by omega) h7).mono ?_; rintro e1 w1 ⟨rfl, hb1⟩; replace BC := lh (BC.out.step hb1); replace BN := lh (BN.out.below hb1 BN.out.lt); clear q0 q1 q2; obtain ⟨q0, q1, q2⟩ := BC.out.edit)
        | (go_at_call 60; refine (c_ref19_patch e.kind _ (by omega) h7).mono ?_; rintro e1 w1 ⟨rfl, hb1⟩; replace BC := lh (BC.out.step hb1); replace BN := lh (BN.out.below hb1 BN.out.lt); clear q0 q1 q2; obtain ⟨q0, q1, q2⟩ := BC.out.edit)
        | (with_reducible refine slG 28 (.tmp 39) rfl ?_))
      refine Stop.mk (wlG (by rfl) _ _ rfl w.heap.size 3 rfl e.p.arr (Edit.part BC.out.2) strP HZ.out ?_)
      go_wp2_with (with_reducible refine slG 28 (.tmp 3) rfl ?_)
      refine Stop.mk (wlG (by rfl) _ _ rfl (w.heap.size + 1) 0 rfl pz.arr BN.out.all strP (by rw [Patch.arr_size]; rfl) ?_)
      go_wp2_with (with_reducible refine stop_bin .neq 28 (.tmp 40) (.tmp 41) 28 rfl ?_)
      refine Stop.mk (wpList_neqS (by rfl) _ _ _ _ rfl e.p.arr pz.arr rfl rfl gP _ ((eq_patch HF.out rfl 9996 _).trans (by rw [hz])) ?_)
      go_wp2_with (first
        | (go_at_call 58; refine (c_ref19_group e.kind _ (by omega) h7).mono ?_; rintro e1 w1 ⟨rfl, hb1⟩; replace BC := lh (BC.out.step hb1); replace BN := lh (BN.out.below hb1 BN.out.lt); clear q0 q1 q2; obtain ⟨q0, q1, q2⟩ := BC.out.edit)
        | (go_at_call 59; refine (c_ref19_id e.kind _ (by omega) h7).mono ?_; rintro e1 w1 ⟨rfl, hb1⟩; replace BC := lh (BC.out.step hb1); replace BN := lh (BN.out.below hb1 BN.out.lt); clear q0 q1 q2; obtain ⟨q0, q1, q2⟩ := BC.out.edit)
        | (go_at_call 60; refine (c_ref19_patch e.kind _ (by omega) h7).mono ?_; rintro e1 w1 ⟨rfl, hb1⟩; replace BC := lh (BC.out.step hb1); replace BN := lh (BN.out.below hb1 BN.out.lt); clear q0 q1 q2; obtain ⟨q0, q1, q2⟩ := BC.out.edit))
      go_ret
      exact RetV.int (by rw [E.out, hp, if_neg (by decide), if_pos (of_decide_eq_true hz)]) BC.out.1
open Go.RowKit

theorem c_edit_Check (e : Edit) (w : World) (hf : e.p.f.length = 8) (hs : ∀ x ∈ e.p.f, x.s.length ≤ 4294967000) (hm : e.p.mask < 4294967296) : Calls Tryd.prog 22 #[.agg e.arr] w (RetV w (.int .i64 e.code)) := by
  by_cases hk : 1 ≤ e.kind ∧ e.kind ≤ 7
  · by_cases hg : e.gOk = true
    · by_cases hi : e.iOk = true
      · exact edit_Check_p e w hf hs hm hk.1 hk.2 hg hi
      · exact edit_Check_i e w hk.1 hk.2 hg hi
    · exact edit_Check_g e w hk.1 hk.2 hg
  · exact edit_Check_kind e w hk
theorem c_ref19_Check (e : Edit) (w : World) (hf : e.p.f.length = 8) (hs : ∀ x ∈ e.p.f, x.s.length ≤ 4294967000) (hm : e.p.mask < 4294967296) : Calls Tryd.prog 30 #[.agg e.arr] w (RetV w (.int .i64 e.code)) := by
  by_cases hk : 1 ≤ e.kind ∧ e.kind ≤ 7
  case neg => exact ref19_Check_kind e w hk
  obtain ⟨h1, h7⟩ := hk
  by_cases ha : hasG e.kind = false ∧ e.group ≠ 0
  · exact ref19_Check_a e w hf h1 h7 ha.1 ha.2
  have hg : hasG e.kind = true ∨ (hasG e.kind = false ∧ e.group = 0) := by
    cases h : hasG e.kind
    · exact .inr ⟨rfl, Classical.byContradiction fun h' => ha ⟨h, h'⟩⟩
    · exact .inl rfl
  by_cases hb : hasI e.kind = false ∧ e.id ≠ 0
  · exact ref19_Check_b e w hf h1 h7 hg hb.1 hb.2
  have hi : hasI e.kind = true ∨ (hasI e.kind = false ∧ e.id = 0) := by
    cases h : hasI e.kind
    · exact .inr ⟨rfl, Classical.byContradiction fun h' => hb ⟨h, h'⟩⟩
    · exact .inl rfl
  by_cases hc : hasP e.kind = false ∧ e.p ≠ pz
  · exact ref19_Check_c e w hf h1 h7 hg hi hc.1 hc.2
  have hp : hasP e.kind = true ∨ (hasP e.kind = false ∧ e.p = pz) := by
    cases h : hasP e.kind
    · exact .inr ⟨rfl, Classical.byContradiction fun h' => hc ⟨h, h'⟩⟩
    · exact .inl rfl
  by_cases hr : 0 ≤ e.group ∧ e.group < 16
  case neg =>
    have hr' : e.group < 0 ∨ (0 ≤ e.group ∧ 16 ≤ e.group) := by omega
    rcases hp with hp | ⟨hp, hp0⟩
    · exact ref19_Check_dP e w hf h1 h7 hg hi hr' hp
    · exact ref19_Check_dN e w hf h1 h7 hg hi hr' hp hp0
  have hgo : e.gOk = true := by
    unfold Edit.gOk
    simp only [Bool.and_eq_true, Bool.or_eq_true, decide_eq_true_eq]
    exact ⟨hr, hg.imp id And.right⟩
  by_cases hq : hasI e.kind = true ∧ ¬ (1 ≤ e.id ∧ e.id < 1073741824)
  · have hr' : e.id < 1 ∨ (1 ≤ e.id ∧ 1073741824 ≤ e.id) := by omega
    rcases hp with hp | ⟨hp, hp0⟩
    · exact ref19_Check_fP e w hf h1 h7 hg hq.1 hr.1 hr.2 hr' hp
    · exact ref19_Check_fN e w hf h1 h7 hg hq.1 hr.1 hr.2 hr' hp hp0
  have hi' : hasI e.kind = true ∧ 1 ≤ e.id ∧ e.id < 1073741824 ∨ (hasI e.kind = false ∧ e.id = 0) := by
    rcases hi with hi | hi
    · exact .inl ⟨hi, Classical.byContradiction fun h' => hq ⟨hi, h'⟩⟩
    · exact .inr hi
  have hio : e.iOk = true := by
    unfold Edit.iOk
    rcases hi' with ⟨h, h2⟩ | ⟨h, h2⟩
    · rw [h, if_pos rfl]; exact decide_eq_true h2
    · rw [h, if_neg (by decide)]; exact decide_eq_true h2
  rcases hp with hp | ⟨hp, hp0⟩
  · exact ref19_Check_kP e w hf hs hm h1 h7 hg hi' ⟨hgo, hio⟩ hp
  · exact ref19_Check_kN e w hf hs hm h1 h7 hg hi' ⟨hgo, hio⟩ hp hp0
theorem Edit.size {e : Edit} (hf : e.p.f.length = 8) : e.arr.size = 29 := by rw [Edit.arr_size, hf]
open Go.RowKit

set_option maxHeartbeats 8000000 in
set_option maxRecDepth 4000 in
theorem c_edit_Put (b : List UInt8) (B : Option Addr) (cb : Nat) (e : Edit) (w : World) (hb : InB w B cb b) (hbl : b.length ≤ 900000) (hT : Tab w) (hf : e.p.f.length = 8) (hs : ∀ x ∈ e.p.f, x.s.length ≤ 4294967000) (hm : e.p.mask < 4294967296) :
    Calls Tryd.prog 72 #[.slice B b.length cb, .agg e.arr] w (RetS 1 bc 5 w (b ++ editB e)) := by
  have hL' := hb.1
  have hC' := hb.2.1
  have HF := lh hf
  have HIN := lh hb
  have HZ := lh (Edit.size hf)
  have HZP := lh (show e.p.arr.size = 26 by rw [Patch.arr_size, hf])
  have B0 := lh (Blk.new w 30 e.arr)
  clear hf hb
  by_cases h : e.code = 0
  case neg =>
    have k : (e.code != 0) = true := by simpa using h
    have H : Hid (b = b ++ editB e) := by show _ = _; rw [editB_bad h, List.append_nil]
    clear h
    go_enter Tryd.func72, Tryd.ntmps72
    go_wp2_with (with_reducible refine stop_load 30 (.tmp 3) rfl rfl ?_)
    refine Stop.mk (wpList_loadB rfl _ _ rfl w.heap.size rfl e.arr B0.out strE HZ.out ?_)
    go_wp2_with (fail)
    refine (c_edit_Check e _ HF.out hs hm).mono ?_
    rintro e1 w1 ⟨rfl, hb1⟩
    have hw1 : Below w.heap.size w w1 := ((Below.refl _ _).alloc (Nat.le_refl _) _).trans (hb1.mono (by simp))
    have hz1 := hw1.size
    go_wp2_with (fail)
    refine (c_Clone_b b B cb _ (HIN.out.below hw1)).mono ?_
    rintro e2 w2 ⟨v2, rfl, own2, hb2⟩
    go_wp2_with (fail)
    go_ret
    exact RetS.of own2 hz1 H.out (hw1.trans (hb2.mono hz1))
  case pos =>
  have k : (e.code != 0) = false := by simpa using h
  obtain ⟨h1, h7, -, -, -, -⟩ := Edit.code_zero h
  have hn1 := (num_len e.kind).2
  have hn2 := (num_len e.group).2
  have hn3 := (num_len e.id).2
  have hn4 := patchB_len e.p
  have HE := lh (editB_ok h)
  clear h
  cases hG : hasG e.kind <;> cases hI : hasI e.kind <;> cases hP : hasP e.kind
  · have H : Hid (b ++ num e.kind = b ++ editB e) := by show _ = _; rw [HE.out, hG, hI, hP]; simp
    have j1 : hasW e.kind 1 = false := hG
    have j2 : hasW e.kind 2 = false := hI
    have j4 : hasW e.kind 4 = false := hP
    clear hG hI hP
    go_enter Tryd.func72, Tryd.ntmps72
    go_wp2_with (with_reducible refine stop_load 30 (.tmp 3) rfl rfl ?_)
    refine Stop.mk (wpList_loadB rfl _ _ rfl w.heap.size rfl e.arr B0.out strE HZ.out ?_)
    go_wp2_with (fail)
    refine (c_edit_Check e _ HF.out hs hm).mono ?_
    rintro e1 w1 ⟨rfl, hb1⟩
    have hw1 : Below w.heap.size w w1 := ((Below.refl _ _).alloc (Nat.le_refl _) _).trans (hb1.mono (by simp))
    have hz1 := hw1.size
    have B1 := lh (B0.out.below hb1 (by simp))
    have q1 := B1.out.cell e.arr_head.1
    have N1 := lh (HIN.out.below hw1)
    clear hb1
    go_wp2_with (fail)
    refine (c_octet_Num b B cb _ _ N1.out).mono ?_
    rintro e2 w2 ⟨v2, rfl, own2, hb2⟩
    obtain ⟨l2, A2, c2, H2, hl2, rfl, in2, own2'⟩ := own_open bc_len own2 (b.length + 7) (by simp only [List.length_append]; omega) (by omega)
    have hw2 : Below w.heap.size w w2 := hw1.trans (hb2.mono hz1)
    have hz2 := hw2.size
    have B2 := lh (B1.out.below hb2 B1.out.lt)
    have q2 := B2.out.cell e.arr_head.1
    have N2 := lh in2
    have O2 := lh (own_base own2'.out hz1)
    clear own2 own2' in2 hb2 q1
    go_wp2_with (fail)
    refine (c_edit_has e.kind _ _ (by omega) h7 (by decide)).mono ?_
    rintro e3 w3 ⟨rfl, hb3⟩
    have hw3 : Below w.heap.size w w3 := hw2.trans (hb3.mono hz2)
    have hz3 := hw3.size
    have B3 := lh (B2.out.below hb3 B2.out.lt)
    have q3 := B3.out.cell e.arr_head.1
    have N3 := lh (N2.out.below hb3)
    have O3 := lh (own_below O2.out hb3)
    clear hb3 q2
    go_wp2_with (fail)
    refine (c_edit_has e.kind _ _ (by omega) h7 (by decide)).mono ?_
    rintro e4 w4 ⟨rfl, hb4⟩
    have hw4 : Below w.heap.size w w4 := hw3.trans (hb4.mono hz3)
    have hz4 := hw4.size
    have B4 := lh (B3.out.below hb4 B3.out.lt)
    have q4 := B4.out.cell e.arr_head.1
    have N4 := lh (N3.out.below hb4)
    have O4 := lh (own_below O3.out hb4)
    clear hb4 q3
    go_wp2_with (fail)
    refine (c_edit_has e.kind _ _ (by omega) h7 (by decide)).mono ?_
    rintro e5 w5 ⟨rfl, hb5⟩
    have hw5 : Below w.heap.size w w5 := hw4.trans (hb5.mono hz4)
    have hz5 := hw5.size
    have B5 := lh (B4.out.below hb5 B4.out.lt)
    have q5 := B5.out.cell e.arr_head.1
    have N5 := lh (N4.out.below hb5)
    have O5 := lh (own_below O4.out hb5)
    clear hb5 q4
    go_wp2_with (fail)
    go_ret
    exact RetS.of O5.out (Nat.le_refl _) (by rw [← H.out, H2.out]) hw5
  · have H : Hid (b ++ num e.kind ++ patchB e.p = b ++ editB e) := by show _ = _; rw [HE.out, hG, hI, hP]; simp
    have j1 : hasW e.kind 1 = false := hG
    have j2 : hasW e.kind 2 = false := hI
    have j4 : hasW e.kind 4 = true := hP
    clear hG hI hP
    go_enter Tryd.func72, Tryd.ntmps72
    go_wp2_with (with_reducible refine stop_load 30 (.tmp 3) rfl rfl ?_)
    refine Stop.mk (wpList_loadB rfl _ _ rfl w.heap.size rfl e.arr B0.out strE HZ.out ?_)
    go_wp2_with (fail)
    refine (c_edit_Check e _ HF.out hs hm).mono ?_
    rintro e1 w1 ⟨rfl, hb1⟩
    have hw1 : Below w.heap.size w w1 := ((Below.refl _ _).alloc (Nat.le_refl _) _).trans (hb1.mono (by simp))
    have hz1 := hw1.size
    have B1 := lh (B0.out.below hb1 (by simp))
    have q1 := B1.out.cell e.arr_head.1
    have N1 := lh (HIN.out.below hw1)
    clear hb1
    go_wp2_with (fail)
    refine (c_octet_Num b B cb _ _ N1.out).mono ?_
    rintro e2 w2 ⟨v2, rfl, own2, hb2⟩
    obtain ⟨l2, A2, c2, H2, hl2, rfl, in2, own2'⟩ := own_open bc_len own2 (b.length + 7) (by simp only [List.length_append]; omega) (by omega)
    have hw2 : Below w.heap.size w w2 := hw1.trans (hb2.mono hz1)
    have hz2 := hw2.size
    have B2 := lh (B1.out.below hb2 B1.out.lt)
    have q2 := B2.out.cell e.arr_head.1
    have N2 := lh in2
    have O2 := lh (own_base own2'.out hz1)
    clear own2 own2' in2 hb2 q1
    go_wp2_with (fail)
    refine (c_edit_has e.kind _ _ (by omega) h7 (by decide)).mono ?_
    rintro e3 w3 ⟨rfl, hb3⟩
    have hw3 : Below w.heap.size w w3 := hw2.trans (hb3.mono hz2)
    have hz3 := hw3.size
    have B3 := lh (B2.out.below hb3 B2.out.lt)
    have q3 := B3.out.cell e.arr_head.1
    have N3 := lh (N2.out.below hb3)
    have O3 := lh (own_below O2.out hb3)
    clear hb3 q2
    go_wp2_with (fail)
    refine (c_edit_has e.kind _ _ (by omega) h7 (by decide)).mono ?_
    rintro e4 w4 ⟨rfl, hb4⟩
    have hw4 : Below w.heap.size w w4 := hw3.trans (hb4.mono hz3)
    have hz4 := hw4.size
    have B4 := lh (B3.out.below hb4 B3.out.lt)
    have q4 := B4.out.cell e.arr_head.1
    have N4 := lh (N3.out.below hb4)
    have O4 := lh (own_below O3.out hb4)
    clear hb4 q3
    go_wp2_with (fail)
    refine (c_edit_has e.kind _ _ (by omega) h7 (by decide)).mono ?_
    rintro e5 w5 ⟨rfl, hb5⟩
    have hw5 : Below w.heap.size w w5 := hw4.trans (hb5.mono hz4)
    have hz5 := hw5.size
    have B5 := lh (B4.out.below hb5 B4.out.lt)
    have q5 := B5.out.cell e.arr_head.1
    have N5 := lh (N4.out.below hb5)
    have O5 := lh (own_below O4.out hb5)
    clear hb5 q4
    go_wp2_with (with_reducible refine stop_load 28 (.tmp 32) rfl rfl ?_)
    refine Stop.mk (wpList_loadAt rfl _ _ rfl w.heap.size 3 rfl e.p.arr (Edit.part B5.out) strP HZP.out ?_)
    go_wp2_with (fail)
    refine (c_cardwire_PutPatch l2 A2 c2 e.p _ N5.out (by omega) (hT.below hw5) hm HF.out hs).mono ?_
    rintro e6 w6 ⟨v6, rfl, own6, hb6⟩
    go_wp2_with (fail)
    go_ret
    exact RetS.of own6 hz5 (by rw [← H.out, H2.out]) (hw5.trans (hb6.mono hz5))
  · have H : Hid (b ++ num e.kind ++ num e.id = b ++ editB e) := by show _ = _; rw [HE.out, hG, hI, hP]; simp
    have j1 : hasW e.kind 1 = false := hG
    have j2 : hasW e.kind 2 = true := hI
    have j4 : hasW e.kind 4 = false := hP
    clear hG hI hP
    go_enter Tryd.func72, Tryd.ntmps72
    go_wp2_with (with_reducible refine stop_load 30 (.tmp 3) rfl rfl ?_)
    refine Stop.mk (wpList_loadB rfl _ _ rfl w.heap.size rfl e.arr B0.out strE HZ.out ?_)
    go_wp2_with (fail)
    refine (c_edit_Check e _ HF.out hs hm).mono ?_
    rintro e1 w1 ⟨rfl, hb1⟩
    have hw1 : Below w.heap.size w w1 := ((Below.refl _ _).alloc (Nat.le_refl _) _).trans (hb1.mono (by simp))
    have hz1 := hw1.size
    have B1 := lh (B0.out.below hb1 (by simp))
    have q1 := B1.out.cell e.arr_head.1
    have N1 := lh (HIN.out.below hw1)
    clear hb1
    go_wp2_with (fail)
    refine (c_octet_Num b B cb _ _ N1.out).mono ?_
    rintro e2 w2 ⟨v2, rfl, own2, hb2⟩
    obtain ⟨l2, A2, c2, H2, hl2, rfl, in2, own2'⟩ := own_open bc_len own2 (b.length + 7) (by simp only [List.length_append]; omega) (by omega)
    have hw2 : Below w.heap.size w w2 := hw1.trans (hb2.mono hz1)
    have hz2 := hw2.size
    have B2 := lh (B1.out.below hb2 B1.out.lt)
    have q2 := B2.out.cell e.arr_head.1
    have N2 := lh in2
    have O2 := lh (own_base own2'.out hz1)
    clear own2 own2' in2 hb2 q1
    go_wp2_with (fail)
    refine (c_edit_has e.kind _ _ (by omega) h7 (by decide)).mono ?_
    rintro e3 w3 ⟨rfl, hb3⟩
    have hw3 : Below w.heap.size w w3 := hw2.trans (hb3.mono hz2)
    have hz3 := hw3.size
    have B3 := lh (B2.out.below hb3 B2.out.lt)
    have q3 := B3.out.cell e.arr_head.1
    have N3 := lh (N2.out.below hb3)
    have O3 := lh (own_below O2.out hb3)
    clear hb3 q2
    go_wp2_with (fail)
    refine (c_edit_has e.kind _ _ (by omega) h7 (by decide)).mono ?_
    rintro e4 w4 ⟨rfl, hb4⟩
    have hw4 : Below w.heap.size w w4 := hw3.trans (hb4.mono hz3)
    have hz4 := hw4.size
    have B4 := lh (B3.out.below hb4 B3.out.lt)
    have q4 := B4.out.cell e.arr_head.2.1
    have N4 := lh (N3.out.below hb4)
    have O4 := lh (own_below O3.out hb4)
    clear hb4 q3
    go_wp2_with (fail)
    refine (c_octet_Num l2 A2 c2 _ _ N4.out).mono ?_
    rintro e5 w5 ⟨v5, rfl, own5, hb5⟩
    obtain ⟨l5, A5, c5, H5, hl5, rfl, in5, own5'⟩ := own_open bc_len own5 (b.length + 14) (by simp only [List.length_append]; omega) (by omega)
    have hw5 : Below w.heap.size w w5 := hw4.trans (hb5.mono hz4)
    have hz5 := hw5.size
    have B5 := lh (B4.out.below hb5 B4.out.lt)
    have q5 := B5.out.cell e.arr_head.1
    have N5 := lh in5
    have O5 := lh (own_base own5'.out hz4)
    clear own5 own5' in5 hb5 q4
    go_wp2_with (fail)
    refine (c_edit_has e.kind _ _ (by omega) h7 (by decide)).mono ?_
    rintro e6 w6 ⟨rfl, hb6⟩
    have hw6 : Below w.heap.size w w6 := hw5.trans (hb6.mono hz5)
    have hz6 := hw6.size
    have B6 := lh (B5.out.below hb6 B5.out.lt)
    have q6 := B6.out.cell e.arr_head.1
    have N6 := lh (N5.out.below hb6)
    have O6 := lh (own_below O5.out hb6)
    clear hb6 q5
    go_wp2_with (fail)
    go_ret
    exact RetS.of O6.out (Nat.le_refl _) (by rw [← H.out, H5.out, H2.out]) hw6
  · have H : Hid (b ++ num e.kind ++ num e.id ++ patchB e.p = b ++ editB e) := by show _ = _; rw [HE.out, hG, hI, hP]; simp
    have j1 : hasW e.kind 1 = false := hG
    have j2 : hasW e.kind 2 = true := hI
    have j4 : hasW e.kind 4 = true := hP
    clear hG hI hP
    go_enter Tryd.func72, Tryd.ntmps72
    go_wp2_with (with_reducible refine stop_load 30 (.tmp 3) rfl rfl ?_)
    refine Stop.mk (wpList_loadB rfl _ _ rfl w.heap.size rfl e.arr B0.out strE HZ.out ?_)
    go_wp2_with (fail)
    refine (c_edit_Check e _ HF.out hs hm).mono ?_
    rintro e1 w1 ⟨rfl, hb1⟩
    have hw1 : Below w.heap.size w w1 := ((Below.refl _ _).alloc (Nat.le_refl _) _).trans (hb1.mono (by simp))
    have hz1 := hw1.size
    have B1 := lh (B0.out.below hb1 (by simp))
    have q1 := B1.out.cell e.arr_head.1
    have N1 := lh (HIN.out.below hw1)
    clear hb1
    go_wp2_with (fail)
    refine (c_octet_Num b B cb _ _ N1.out).mono ?_
    rintro e2 w2 ⟨v2, rfl, own2, hb2⟩
    obtain ⟨l2, A2, c2, H2, hl2, rfl, in2, own2'⟩ := own_open bc_len own2 (b.length + 7) (by simp only [List.length_append]; omega) (by omega)
    have hw2 : Below w.heap.size w w2 := hw1.trans (hb2.mono hz1)
    have hz2 := hw2.size
    have B2 := lh (B1.out.below hb2 B1.out.lt)
    have q2 := B2.out.cell e.arr_head.1
    have N2 := lh in2
    have O2 := lh (own_base own2'.out hz1)
    clear own2 own2' in2 hb2 q1
    go_wp2_with (fail)
    refine (c_edit_has e.kind _ _ (by omega) h7 (by decide)).mono ?_
    rintro e3 w3 ⟨rfl, hb3⟩
    have hw3 : Below w.heap.size w w3 := hw2.trans (hb3.mono hz2)
    have hz3 := hw3.size
    have B3 := lh (B2.out.below hb3 B2.out.lt)
    have q3 := B3.out.cell e.arr_head.1
    have N3 := lh (N2.out.below hb3)
    have O3 := lh (own_below O2.out hb3)
    clear hb3 q2
    go_wp2_with (fail)
    refine (c_edit_has e.kind _ _ (by omega) h7 (by decide)).mono ?_
    rintro e4 w4 ⟨rfl, hb4⟩
    have hw4 : Below w.heap.size w w4 := hw3.trans (hb4.mono hz3)
    have hz4 := hw4.size
    have B4 := lh (B3.out.below hb4 B3.out.lt)
    have q4 := B4.out.cell e.arr_head.2.1
    have N4 := lh (N3.out.below hb4)
    have O4 := lh (own_below O3.out hb4)
    clear hb4 q3
    go_wp2_with (fail)
    refine (c_octet_Num l2 A2 c2 _ _ N4.out).mono ?_
    rintro e5 w5 ⟨v5, rfl, own5, hb5⟩
    obtain ⟨l5, A5, c5, H5, hl5, rfl, in5, own5'⟩ := own_open bc_len own5 (b.length + 14) (by simp only [List.length_append]; omega) (by omega)
    have hw5 : Below w.heap.size w w5 := hw4.trans (hb5.mono hz4)
    have hz5 := hw5.size
    have B5 := lh (B4.out.below hb5 B4.out.lt)
    have q5 := B5.out.cell e.arr_head.1
    have N5 := lh in5
    have O5 := lh (own_base own5'.out hz4)
    clear own5 own5' in5 hb5 q4
    go_wp2_with (fail)
    refine (c_edit_has e.kind _ _ (by omega) h7 (by decide)).mono ?_
    rintro e6 w6 ⟨rfl, hb6⟩
    have hw6 : Below w.heap.size w w6 := hw5.trans (hb6.mono hz5)
    have hz6 := hw6.size
    have B6 := lh (B5.out.below hb6 B5.out.lt)
    have q6 := B6.out.cell e.arr_head.1
    have N6 := lh (N5.out.below hb6)
    have O6 := lh (own_below O5.out hb6)
    clear hb6 q5
    go_wp2_with (with_reducible refine stop_load 28 (.tmp 32) rfl rfl ?_)
    refine Stop.mk (wpList_loadAt rfl _ _ rfl w.heap.size 3 rfl e.p.arr (Edit.part B6.out) strP HZP.out ?_)
    go_wp2_with (fail)
    refine (c_cardwire_PutPatch l5 A5 c5 e.p _ N6.out (by omega) (hT.below hw6) hm HF.out hs).mono ?_
    rintro e7 w7 ⟨v7, rfl, own7, hb7⟩
    go_wp2_with (fail)
    go_ret
    exact RetS.of own7 hz6 (by rw [← H.out, H5.out, H2.out]) (hw6.trans (hb7.mono hz6))
  · have H : Hid (b ++ num e.kind ++ num e.group = b ++ editB e) := by show _ = _; rw [HE.out, hG, hI, hP]; simp
    have j1 : hasW e.kind 1 = true := hG
    have j2 : hasW e.kind 2 = false := hI
    have j4 : hasW e.kind 4 = false := hP
    clear hG hI hP
    go_enter Tryd.func72, Tryd.ntmps72
    go_wp2_with (with_reducible refine stop_load 30 (.tmp 3) rfl rfl ?_)
    refine Stop.mk (wpList_loadB rfl _ _ rfl w.heap.size rfl e.arr B0.out strE HZ.out ?_)
    go_wp2_with (fail)
    refine (c_edit_Check e _ HF.out hs hm).mono ?_
    rintro e1 w1 ⟨rfl, hb1⟩
    have hw1 : Below w.heap.size w w1 := ((Below.refl _ _).alloc (Nat.le_refl _) _).trans (hb1.mono (by simp))
    have hz1 := hw1.size
    have B1 := lh (B0.out.below hb1 (by simp))
    have q1 := B1.out.cell e.arr_head.1
    have N1 := lh (HIN.out.below hw1)
    clear hb1
    go_wp2_with (fail)
    refine (c_octet_Num b B cb _ _ N1.out).mono ?_
    rintro e2 w2 ⟨v2, rfl, own2, hb2⟩
    obtain ⟨l2, A2, c2, H2, hl2, rfl, in2, own2'⟩ := own_open bc_len own2 (b.length + 7) (by simp only [List.length_append]; omega) (by omega)
    have hw2 : Below w.heap.size w w2 := hw1.trans (hb2.mono hz1)
    have hz2 := hw2.size
    have B2 := lh (B1.out.below hb2 B1.out.lt)
    have q2 := B2.out.cell e.arr_head.1
    have N2 := lh in2
    have O2 := lh (own_base own2'.out hz1)
    clear own2 own2' in2 hb2 q1
    go_wp2_with (fail)
    refine (c_edit_has e.kind _ _ (by omega) h7 (by decide)).mono ?_
    rintro e3 w3 ⟨rfl, hb3⟩
    have hw3 : Below w.heap.size w w3 := hw2.trans (hb3.mono hz2)
    have hz3 := hw3.size
    have B3 := lh (B2.out.below hb3 B2.out.lt)
    have q3 := B3.out.cell e.arr_head.2.2
    have N3 := lh (N2.out.below hb3)
    have O3 := lh (own_below O2.out hb3)
    clear hb3 q2
    go_wp2_with (fail)
    refine (c_octet_Num l2 A2 c2 _ _ N3.out).mono ?_
    rintro e4 w4 ⟨v4, rfl, own4, hb4⟩
    obtain ⟨l4, A4, c4, H4, hl4, rfl, in4, own4'⟩ := own_open bc_len own4 (b.length + 14) (by simp only [List.length_append]; omega) (by omega)
    have hw4 : Below w.heap.size w w4 := hw3.trans (hb4.mono hz3)
    have hz4 := hw4.size
    have B4 := lh (B3.out.below hb4 B3.out.lt)
    have q4 := B4.out.cell e.arr_head.1
    have N4 := lh in4
    have O4 := lh (own_base own4'.out hz3)
    clear own4 own4' in4 hb4 q3
    go_wp2_with (fail)
    refine (c_edit_has e.kind _ _ (by omega) h7 (by decide)).mono ?_
    rintro e5 w5 ⟨rfl, hb5⟩
    have hw5 : Below w.heap.size w w5 := hw4.trans (hb5.mono hz4)
    have hz5 := hw5.size
    have B5 := lh (B4.out.below hb5 B4.out.lt)
    have q5 := B5.out.cell e.arr_head.1
    have N5 := lh (N4.out.below hb5)
    have O5 := lh (own_below O4.out hb5)
    clear hb5 q4
    go_wp2_with (fail)
    refine (c_edit_has e.kind _ _ (by omega) h7 (by decide)).mono ?_
    rintro e6 w6 ⟨rfl, hb6⟩
    have hw6 : Below w.heap.size w w6 := hw5.trans (hb6.mono hz5)
    have hz6 := hw6.size
    have B6 := lh (B5.out.below hb6 B5.out.lt)
    have q6 := B6.out.cell e.arr_head.1
    have N6 := lh (N5.out.below hb6)
    have O6 := lh (own_below O5.out hb6)
    clear hb6 q5
    go_wp2_with (fail)
    go_ret
    exact RetS.of O6.out (Nat.le_refl _) (by rw [← H.out, H4.out, H2.out]) hw6
  · have H : Hid (b ++ num e.kind ++ num e.group ++ patchB e.p = b ++ editB e) := by show _ = _; rw [HE.out, hG, hI, hP]; simp
    have j1 : hasW e.kind 1 = true := hG
    have j2 : hasW e.kind 2 = false := hI
    have j4 : hasW e.kind 4 = true := hP
    clear hG hI hP
    go_enter Tryd.func72, Tryd.ntmps72
    go_wp2_with (with_reducible refine stop_load 30 (.tmp 3) rfl rfl ?_)
    refine Stop.mk (wpList_loadB rfl _ _ rfl w.heap.size rfl e.arr B0.out strE HZ.out ?_)
    go_wp2_with (fail)
    refine (c_edit_Check e _ HF.out hs hm).mono ?_
    rintro e1 w1 ⟨rfl, hb1⟩
    have hw1 : Below w.heap.size w w1 := ((Below.refl _ _).alloc (Nat.le_refl _) _).trans (hb1.mono (by simp))
    have hz1 := hw1.size
    have B1 := lh (B0.out.below hb1 (by simp))
    have q1 := B1.out.cell e.arr_head.1
    have N1 := lh (HIN.out.below hw1)
    clear hb1
    go_wp2_with (fail)
    refine (c_octet_Num b B cb _ _ N1.out).mono ?_
    rintro e2 w2 ⟨v2, rfl, own2, hb2⟩
    obtain ⟨l2, A2, c2, H2, hl2, rfl, in2, own2'⟩ := own_open bc_len own2 (b.length + 7) (by simp only [List.length_append]; omega) (by omega)
    have hw2 : Below w.heap.size w w2 := hw1.trans (hb2.mono hz1)
    have hz2 := hw2.size
    have B2 := lh (B1.out.below hb2 B1.out.lt)
    have q2 := B2.out.cell e.arr_head.1
    have N2 := lh in2
    have O2 := lh (own_base own2'.out hz1)
    clear own2 own2' in2 hb2 q1
    go_wp2_with (fail)
    refine (c_edit_has e.kind _ _ (by omega) h7 (by decide)).mono ?_
    rintro e3 w3 ⟨rfl, hb3⟩
    have hw3 : Below w.heap.size w w3 := hw2.trans (hb3.mono hz2)
    have hz3 := hw3.size
    have B3 := lh (B2.out.below hb3 B2.out.lt)
    have q3 := B3.out.cell e.arr_head.2.2
    have N3 := lh (N2.out.below hb3)
    have O3 := lh (own_below O2.out hb3)
    clear hb3 q2
    go_wp2_with (fail)
    refine (c_octet_Num l2 A2 c2 _ _ N3.out).mono ?_
    rintro e4 w4 ⟨v4, rfl, own4, hb4⟩
    obtain ⟨l4, A4, c4, H4, hl4, rfl, in4, own4'⟩ := own_open bc_len own4 (b.length + 14) (by simp only [List.length_append]; omega) (by omega)
    have hw4 : Below w.heap.size w w4 := hw3.trans (hb4.mono hz3)
    have hz4 := hw4.size
    have B4 := lh (B3.out.below hb4 B3.out.lt)
    have q4 := B4.out.cell e.arr_head.1
    have N4 := lh in4
    have O4 := lh (own_base own4'.out hz3)
    clear own4 own4' in4 hb4 q3
    go_wp2_with (fail)
    refine (c_edit_has e.kind _ _ (by omega) h7 (by decide)).mono ?_
    rintro e5 w5 ⟨rfl, hb5⟩
    have hw5 : Below w.heap.size w w5 := hw4.trans (hb5.mono hz4)
    have hz5 := hw5.size
    have B5 := lh (B4.out.below hb5 B4.out.lt)
    have q5 := B5.out.cell e.arr_head.1
    have N5 := lh (N4.out.below hb5)
    have O5 := lh (own_below O4.out hb5)
    clear hb5 q4
    go_wp2_with (fail)
    refine (c_edit_has e.kind _ _ (by omega) h7 (by decide)).mono ?_
    rintro e6 w6 ⟨rfl, hb6⟩
    have hw6 : Below w.heap.size w w6 := hw5.trans (hb6.mono hz5)
    have hz6 := hw6.size
    have B6 := lh (B5.out.below hb6 B5.out.lt)
    have q6 := B6.out.cell e.arr_head.1
    have N6 := lh (N5.out.below hb6)
    have O6 := lh (own_below O5.out hb6)
    clear hb6 q5
    go_wp2_with (with_reducible refine stop_load 28 (.tmp 32) rfl rfl ?_)
    refine Stop.mk (wpList_loadAt rfl _ _ rfl w.heap.size 3 rfl e.p.arr (Edit.part B6.out) strP HZP.out ?_)
    go_wp2_with (fail)
    refine (c_cardwire_PutPatch l4 A4 c4 e.p _ N6.out (by omega) (hT.below hw6) hm HF.out hs).mono ?_
    rintro e7 w7 ⟨v7, rfl, own7, hb7⟩
    go_wp2_with (fail)
    go_ret
    exact RetS.of own7 hz6 (by rw [← H.out, H4.out, H2.out]) (hw6.trans (hb7.mono hz6))
  · have H : Hid (b ++ num e.kind ++ num e.group ++ num e.id = b ++ editB e) := by show _ = _; rw [HE.out, hG, hI, hP]; simp
    have j1 : hasW e.kind 1 = true := hG
    have j2 : hasW e.kind 2 = true := hI
    have j4 : hasW e.kind 4 = false := hP
    clear hG hI hP
    go_enter Tryd.func72, Tryd.ntmps72
    go_wp2_with (with_reducible refine stop_load 30 (.tmp 3) rfl rfl ?_)
    refine Stop.mk (wpList_loadB rfl _ _ rfl w.heap.size rfl e.arr B0.out strE HZ.out ?_)
    go_wp2_with (fail)
    refine (c_edit_Check e _ HF.out hs hm).mono ?_
    rintro e1 w1 ⟨rfl, hb1⟩
    have hw1 : Below w.heap.size w w1 := ((Below.refl _ _).alloc (Nat.le_refl _) _).trans (hb1.mono (by simp))
    have hz1 := hw1.size
    have B1 := lh (B0.out.below hb1 (by simp))
    have q1 := B1.out.cell e.arr_head.1
    have N1 := lh (HIN.out.below hw1)
    clear hb1
    go_wp2_with (fail)
    refine (c_octet_Num b B cb _ _ N1.out).mono ?_
    rintro e2 w2 ⟨v2, rfl, own2, hb2⟩
    obtain ⟨l2, A2, c2, H2, hl2, rfl, in2, own2'⟩ := own_open bc_len own2 (b.length + 7) (by simp only [List.length_append]; omega) (by omega)
    have hw2 : Below w.heap.size w w2 := hw1.trans (hb2.mono hz1)
    have hz2 := hw2.size
    have B2 := lh (B1.out.below hb2 B1.out.lt)
    have q2 := B2.out.cell e.arr_head.1
    have N2 := lh in2
    have O2 := lh (own_base own2'.out hz1)
    clear own2 own2' in2 hb2 q1
    go_wp2_with (fail)
    refine (c_edit_has e.kind _ _ (by omega) h7 (by decide)).mono ?_
    rintro e3 w3 ⟨rfl, hb3⟩
    have hw3 : Below w.heap.size w w3 := hw2.trans (hb3.mono hz2)
    have hz3 := hw3.size
    have B3 := lh (B2.out.below hb3 B2.out.lt)
    have q3 := B3.out.cell e.arr_head.2.2
    have N3 := lh (N2.out.below hb3)
    have O3 := lh (own_below O2.out hb3)
    clear hb3 q2
    go_wp2_with (fail)
    refine (c_octet_Num l2 A2 c2 _ _ N3.out).mono ?_
    rintro e4 w4 ⟨v4, rfl, own4, hb4⟩
    obtain ⟨l4, A4, c4, H4, hl4, rfl, in4, own4'⟩ := own_open bc_len own4 (b.length + 14) (by simp only [List.length_append]; omega) (by omega)
    have hw4 : Below w.heap.size w w4 := hw3.trans (hb4.mono hz3)
    have hz4 := hw4.size
    have B4 := lh (B3.out.below hb4 B3.out.lt)
    have q4 := B4.out.cell e.arr_head.1
    have N4 := lh in4
    have O4 := lh (own_base own4'.out hz3)
    clear own4 own4' in4 hb4 q3
    go_wp2_with (fail)
    refine (c_edit_has e.kind _ _ (by omega) h7 (by decide)).mono ?_
    rintro e5 w5 ⟨rfl, hb5⟩
    have hw5 : Below w.heap.size w w5 := hw4.trans (hb5.mono hz4)
    have hz5 := hw5.size
    have B5 := lh (B4.out.below hb5 B4.out.lt)
    have q5 := B5.out.cell e.arr_head.2.1
    have N5 := lh (N4.out.below hb5)
    have O5 := lh (own_below O4.out hb5)
    clear hb5 q4
    go_wp2_with (fail)
    refine (c_octet_Num l4 A4 c4 _ _ N5.out).mono ?_
    rintro e6 w6 ⟨v6, rfl, own6, hb6⟩
    obtain ⟨l6, A6, c6, H6, hl6, rfl, in6, own6'⟩ := own_open bc_len own6 (b.length + 21) (by simp only [List.length_append]; omega) (by omega)
    have hw6 : Below w.heap.size w w6 := hw5.trans (hb6.mono hz5)
    have hz6 := hw6.size
    have B6 := lh (B5.out.below hb6 B5.out.lt)
    have q6 := B6.out.cell e.arr_head.1
    have N6 := lh in6
    have O6 := lh (own_base own6'.out hz5)
    clear own6 own6' in6 hb6 q5
    go_wp2_with (fail)
    refine (c_edit_has e.kind _ _ (by omega) h7 (by decide)).mono ?_
    rintro e7 w7 ⟨rfl, hb7⟩
    have hw7 : Below w.heap.size w w7 := hw6.trans (hb7.mono hz6)
    have hz7 := hw7.size
    have B7 := lh (B6.out.below hb7 B6.out.lt)
    have q7 := B7.out.cell e.arr_head.1
    have N7 := lh (N6.out.below hb7)
    have O7 := lh (own_below O6.out hb7)
    clear hb7 q6
    go_wp2_with (fail)
    go_ret
    exact RetS.of O7.out (Nat.le_refl _) (by rw [← H.out, H6.out, H4.out, H2.out]) hw7
  · have H : Hid (b ++ num e.kind ++ num e.group ++ num e.id ++ patchB e.p = b ++ editB e) := by show _ = _; rw [HE.out, hG, hI, hP]; simp
    have j1 : hasW e.kind 1 = true := hG
    have j2 : hasW e.kind 2 = true := hI
    have j4 : hasW e.kind 4 = true := hP
    clear hG hI hP
    go_enter Tryd.func72, Tryd.ntmps72
    go_wp2_with (with_reducible refine stop_load 30 (.tmp 3) rfl rfl ?_)
    refine Stop.mk (wpList_loadB rfl _ _ rfl w.heap.size rfl e.arr B0.out strE HZ.out ?_)
    go_wp2_with (fail)
    refine (c_edit_Check e _ HF.out hs hm).mono ?_
    rintro e1 w1 ⟨rfl, hb1⟩
    have hw1 : Below w.heap.size w w1 := ((Below.refl _ _).alloc (Nat.le_refl _) _).trans (hb1.mono (by simp))
    have hz1 := hw1.size
    have B1 := lh (B0.out.below hb1 (by simp))
    have q1 := B1.out.cell e.arr_head.1
    have N1 := lh (HIN.out.below hw1)
    clear hb1
    go_wp2_with (fail)
    refine (c_octet_Num b B cb _ _ N1.out).mono ?_
    rintro e2 w2 ⟨v2, rfl, own2, hb2⟩
    obtain ⟨l2, A2, c2, H2, hl2, rfl, in2, own2'⟩ := own_open bc_len own2 (b.length + 7) (by simp only [List.length_append]; omega) (by omega)
    have hw2 : Below w.heap.size w w2 := hw1.trans (hb2.mono hz1)
    have hz2 := hw2.size
    have B2 := lh (B1.out.below hb2 B1.out.lt)
    have q2 := B2.out.cell e.arr_head.1
    have N2 := lh in2
    have O2 := lh (own_base own2'.out hz1)
    clear own2 own2' in2 hb2 q1
    go_wp2_with (fail)
    refine (c_edit_has e.kind _ _ (by omega) h7 (by decide)).mono ?_
    rintro e3 w3 ⟨rfl, hb3⟩
    have hw3 : Below w.heap.size w w3 := hw2.trans (hb3.mono hz2)
    have hz3 := hw3.size
    have B3 := lh (B2.out.below hb3 B2.out.lt)
    have q3 := B3.out.cell e.arr_head.2.2
    have N3 := lh (N2.out.below hb3)
    have O3 := lh (own_below O2.out hb3)
    clear hb3 q2
    go_wp2_with (fail)
    refine (c_octet_Num l2 A2 c2 _ _ N3.out).mono ?_
    rintro e4 w4 ⟨v4, rfl, own4, hb4⟩
    obtain ⟨l4, A4, c4, H4, hl4, rfl, in4, own4'⟩ := own_open bc_len own4 (b.length + 14) (by simp only [List.length_append]; omega) (by omega)
    have hw4 : Below w.heap.size w w4 := hw3.trans (hb4.mono hz3)
    have hz4 := hw4.size
    have B4 := lh (B3.out.below hb4 B3.out.lt)
    have q4 := B4.out.cell e.arr_head.1
    have N4 := lh in4
    have O4 := lh (own_base own4'.out hz3)
    clear own4 own4' in4 hb4 q3
    go_wp2_with (fail)
    refine (c_edit_has e.kind _ _ (by omega) h7 (by decide)).mono ?_
    rintro e5 w5 ⟨rfl, hb5⟩
    have hw5 : Below w.heap.size w w5 := hw4.trans (hb5.mono hz4)
    have hz5 := hw5.size
    have B5 := lh (B4.out.below hb5 B4.out.lt)
    have q5 := B5.out.cell e.arr_head.2.1
    have N5 := lh (N4.out.below hb5)
    have O5 := lh (own_below O4.out hb5)
    clear hb5 q4
    go_wp2_with (fail)
    refine (c_octet_Num l4 A4 c4 _ _ N5.out).mono ?_
    rintro e6 w6 ⟨v6, rfl, own6, hb6⟩
    obtain ⟨l6, A6, c6, H6, hl6, rfl, in6, own6'⟩ := own_open bc_len own6 (b.length + 21) (by simp only [List.length_append]; omega) (by omega)
    have hw6 : Below w.heap.size w w6 := hw5.trans (hb6.mono hz5)
    have hz6 := hw6.size
    have B6 := lh (B5.out.below hb6 B5.out.lt)
    have q6 := B6.out.cell e.arr_head.1
    have N6 := lh in6
    have O6 := lh (own_base own6'.out hz5)
    clear own6 own6' in6 hb6 q5
    go_wp2_with (fail)
    refine (c_edit_has e.kind _ _ (by omega) h7 (by decide)).mono ?_
    rintro e7 w7 ⟨rfl, hb7⟩
    have hw7 : Below w.heap.size w w7 := hw6.trans (hb7.mono hz6)
    have hz7 := hw7.size
    have B7 := lh (B6.out.below hb7 B6.out.lt)
    have q7 := B7.out.cell e.arr_head.1
    have N7 := lh (N6.out.below hb7)
    have O7 := lh (own_below O6.out hb7)
    clear hb7 q6
    go_wp2_with (with_reducible refine stop_load 28 (.tmp 32) rfl rfl ?_)
    refine Stop.mk (wpList_loadAt rfl _ _ rfl w.heap.size 3 rfl e.p.arr (Edit.part B7.out) strP HZP.out ?_)
    go_wp2_with (fail)
    refine (c_cardwire_PutPatch l6 A6 c6 e.p _ N7.out (by omega) (hT.below hw7) hm HF.out hs).mono ?_
    rintro e8 w8 ⟨v8, rfl, own8, hb8⟩
    go_wp2_with (fail)
    go_ret
    exact RetS.of own8 hz7 (by rw [← H.out, H6.out, H4.out, H2.out]) (hw7.trans (hb8.mono hz7))
end Go.Proofs.YtiedkcijjfmhaaaDoor
