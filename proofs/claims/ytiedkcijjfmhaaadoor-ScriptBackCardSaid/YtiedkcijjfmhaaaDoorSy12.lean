/-
  The walk of edit.Check: which edits may be.
-/
import Derived.Test.YtiedkcijjfmhaaaDoorSy1
import Derived.Test.YtiedkcijjfmhaaaDoorSy2
import Derived.Test.YtiedkcijjfmhaaaDoorSy4
import Derived.Test.YtiedkcijjfmhaaaDoorSy9
namespace Go.Proofs.YtiedkcijjfmhaaaDoor
open Go.RowKit

theorem At.edit {w w1 : World} {e : Edit} (h : At w w1 e.arr) : w1.cell? ⟨w.heap.size, 0, none⟩ = some (.int .i64 e.kind) ∧ w1.cell? ⟨w.heap.size, 1, none⟩ = some (.int .i64 e.id) ∧ w1.cell? ⟨w.heap.size, 2, none⟩ = some (.int .i64 e.group) := by
  obtain ⟨h0, h1, h2⟩ := e.arr_head
  exact ⟨h.2.cell h0, h.2.cell h1, h.2.cell h2⟩
theorem gOk_bad {e : Edit} (h : ¬ e.gOk = true) : (e.group < 0) ∨ (0 ≤ e.group ∧ 16 ≤ e.group) ∨ (0 < e.group ∧ e.group < 16 ∧ hasG e.kind = false) := by
  unfold Edit.gOk at h
  cases hh : hasG e.kind
  all_goals
    rw [hh] at h
    simp only [Bool.and_eq_true, Bool.or_eq_true, decide_eq_true_eq, Bool.false_eq_true, false_or, true_or, and_true] at h
  · have : (e.group < 0) ∨ (0 ≤ e.group ∧ 16 ≤ e.group) ∨ (0 < e.group ∧ e.group < 16) := by omega
    rcases this with a | a | ⟨a, b⟩
    · exact .inl a
    · exact .inr (.inl a)
    · exact .inr (.inr ⟨a, b, rfl⟩)
  · have : (e.group < 0) ∨ (0 ≤ e.group ∧ 16 ≤ e.group) := by omega
    rcases this with a | a
    · exact .inl a
    · exact .inr (.inl a)
theorem gOk_ok {e : Edit} (h : e.gOk = true) : 0 ≤ e.group ∧ e.group < 16 ∧ (e.group = 0 ∨ (0 < e.group ∧ hasG e.kind = true)) := by
  unfold Edit.gOk at h
  cases hh : hasG e.kind
  all_goals
    rw [hh] at h
    simp only [Bool.and_eq_true, Bool.or_eq_true, decide_eq_true_eq, Bool.false_eq_true, false_or, true_or, and_true] at h
  · exact ⟨h.1.1, h.1.2, .inl h.2⟩
  · refine ⟨h.1, h.2, ?_⟩
    by_cases h0 : e.group = 0
    · exact .inl h0
    · exact .inr ⟨by omega, rfl⟩
theorem iOk_bad {e : Edit} (h : ¬ e.iOk = true) : (hasI e.kind = true ∧ e.id < 1) ∨ (hasI e.kind = true ∧ 1 ≤ e.id ∧ 1073741824 ≤ e.id) ∨ (hasI e.kind = false ∧ e.id ≠ 0) := by
  unfold Edit.iOk at h
  cases hh : hasI e.kind
  · rw [hh] at h
    exact .inr (.inr ⟨rfl, by simpa using h⟩)
  · rw [hh] at h
    simp only [if_true, decide_eq_true_eq] at h
    have : e.id < 1 ∨ (1 ≤ e.id ∧ 1073741824 ≤ e.id) := by omega
    rcases this with a | a
    · exact .inl ⟨rfl, a⟩
    · exact .inr (.inl ⟨rfl, a⟩)
theorem iOk_ok {e : Edit} (h : e.iOk = true) : (hasI e.kind = true ∧ 1 ≤ e.id ∧ e.id < 1073741824) ∨ (hasI e.kind = false ∧ e.id = 0) := by
  unfold Edit.iOk at h
  cases hh : hasI e.kind
  · rw [hh] at h
    exact .inr ⟨rfl, by simpa using h⟩
  · rw [hh] at h
    simp only [if_true, decide_eq_true_eq] at h
    exact .inl ⟨rfl, h⟩
set_option maxHeartbeats 1000000 in
theorem edit_Check_kind (e : Edit) (w : World) (hk : ¬ (1 ≤ e.kind ∧ e.kind ≤ 7)) : Calls Tryd.prog 22 #[.agg e.arr] w (RetV w (.int .i64 e.code)) := by
  have E := lh (Edit.code_kind hk)
  have BC := lh (At.new w 30 e.arr)
  obtain ⟨q0, q1, q2⟩ := BC.out.edit
  have hk' : e.kind < 1 ∨ (1 ≤ e.kind ∧ 7 < e.kind) := by omega
  clear hk
  rcases hk' with hk | ⟨hk, hk2⟩
  · have k1 : decide (e.kind < 1) = true := by simpa using hk
    clear hk
    go_enter Tryd.func22, Tryd.ntmps22
    go_wp2_with (fail)
    go_ret
    exact RetV.int E.out.symm BC.out.1
  · have k1 : decide (e.kind < 1) = false := by simpa using hk
    have k2 : decide (7 < e.kind) = true := by simpa using hk2
    clear hk hk2
    go_enter Tryd.func22, Tryd.ntmps22
    go_wp2_with (fail)
    go_ret
    exact RetV.int E.out.symm BC.out.1
set_option maxHeartbeats 1000000 in
set_option maxRecDepth 4000 in
theorem edit_Check_g (e : Edit) (w : World) (h1 : 1 ≤ e.kind) (h7 : e.kind ≤ 7) (hg : ¬ e.gOk = true) : Calls Tryd.prog 22 #[.agg e.arr] w (RetV w (.int .i64 e.code)) := by
  have E := lh (Edit.code_g (by simpa using hg))
  have BC := lh (At.new w 30 e.arr)
  obtain ⟨q0, q1, q2⟩ := BC.out.edit
  have k1 : decide (e.kind < 1) = false := by simpa using h1
  have k2 : decide (7 < e.kind) = false := by simpa using h7
  rcases gOk_bad hg with hg | ⟨hg, hg2⟩ | ⟨hg, hg2, hg3⟩
  · have k3 : decide (e.group < 0) = true := by simpa using hg
    clear hg
    go_enter Tryd.func22, Tryd.ntmps22
    go_wp2_with (fail)
    go_ret
    exact RetV.int E.out.symm BC.out.1
  · have k3 : decide (e.group < 0) = false := by simpa using hg
    have k4 : decide (16 ≤ e.group) = true := by simpa using hg2
    clear hg hg2
    go_enter Tryd.func22, Tryd.ntmps22
    go_wp2_with (fail)
    go_ret
    exact RetV.int E.out.symm BC.out.1
  · have k3 : decide (e.group < 0) = false := by simp; omega
    have k4 : decide (16 ≤ e.group) = false := by simpa using hg2
    have k5 : decide (0 < e.group) = true := by simpa using hg
    have j1 : hasW e.kind 1 = false := hg3
    clear hg hg2
    go_enter Tryd.func22, Tryd.ntmps22
    go_wp2_with (go_at_call 48; refine (c_edit_has e.kind _ _ (by omega) h7 (by decide)).mono ?_; rintro e1 w1 ⟨rfl, hb1⟩; replace BC := lh (BC.out.step hb1); clear q0 q1 q2; obtain ⟨q0, q1, q2⟩ := BC.out.edit)
    go_ret
    exact RetV.int E.out.symm BC.out.1
set_option maxHeartbeats 2000000 in
set_option maxRecDepth 4000 in
theorem edit_Check_i (e : Edit) (w : World) (h1 : 1 ≤ e.kind) (h7 : e.kind ≤ 7) (hg : e.gOk = true) (hi : ¬ e.iOk = true) : Calls Tryd.prog 22 #[.agg e.arr] w (RetV w (.int .i64 e.code)) := by
  have E := lh (Edit.code_i (by simpa using hi))
  have BC := lh (At.new w 30 e.arr)
  obtain ⟨q0, q1, q2⟩ := BC.out.edit
  have k1 : decide (e.kind < 1) = false := by simpa using h1
  have k2 : decide (7 < e.kind) = false := by simpa using h7
  obtain ⟨g1, g2, g3⟩ := gOk_ok hg
  have k3 : decide (e.group < 0) = false := by simp; omega
  have k4 : decide (16 ≤ e.group) = false := by simpa using g2
  rcases g3 with g3 | ⟨g3, g4⟩
  all_goals
    first
    | (have k5 : decide (0 < e.group) = false := by simp; omega)
    | (have k5 : decide (0 < e.group) = true := by simpa using g3
       have j1 : hasW e.kind 1 = true := g4)
    clear g1 g2 g3 hg
    rcases iOk_bad hi with ⟨i1, i2⟩ | ⟨i1, i2, i3⟩ | ⟨i1, i2⟩
    all_goals
      first
      | (have k6 : decide (e.id < 1) = true := by simpa using i2
         have j2 : hasW e.kind 2 = true := i1)
      | (have k6 : decide (e.id < 1) = false := by simpa using i2
         have k7 : decide (1073741824 ≤ e.id) = true := by simpa using i3
         have j2 : hasW e.kind 2 = true := i1
         clear i3)
      | (have k6 : (e.id != 0) = true := by simpa using i2
         have j2 : hasW e.kind 2 = false := i1)
      clear i2 hi
      go_enter Tryd.func22, Tryd.ntmps22
      go_wp2_with (first
        | (go_at_call 48; refine (c_edit_has e.kind _ _ (by omega) h7 (by decide)).mono ?_; rintro e1 w1 ⟨rfl, hb1⟩; replace BC := lh (BC.out.step hb1); clear q0 q1 q2; obtain ⟨q0, q1, q2⟩ := BC.out.edit))
      go_ret
      exact RetV.int E.out.symm BC.out.1
set_option maxHeartbeats 4000000 in
set_option maxRecDepth 4000 in
theorem edit_Check_p (e : Edit) (w : World) (hf : e.p.f.length = 8) (hs : ∀ x ∈ e.p.f, x.s.length ≤ 4294967000) (hm : e.p.mask < 4294967296) (h1 : 1 ≤ e.kind) (h7 : e.kind ≤ 7) (hg : e.gOk = true) (hi : e.iOk = true) : Calls Tryd.prog 22 #[.agg e.arr] w (RetV w (.int .i64 e.code)) := by
  have E := lh (Edit.code_p h1 h7 hg hi)
  have BC := lh (At.new w 30 e.arr)
  have HF := lh hf
  have hsz : e.p.arr.size = 26 := by rw [Patch.arr_size, hf]
  have HZ := lh hsz
  clear hsz hf
  obtain ⟨q0, q1, q2⟩ := BC.out.edit
  have k1 : decide (e.kind < 1) = false := by simpa using h1
  have k2 : decide (7 < e.kind) = false := by simpa using h7
  obtain ⟨g1, g2, g3⟩ := gOk_ok hg
  have k3 : decide (e.group < 0) = false := by simp; omega
  have k4 : decide (16 ≤ e.group) = false := by simpa using g2
  rcases g3 with g3 | ⟨g3, g4⟩
  all_goals
    first
    | (have k5 : decide (0 < e.group) = false := by simp; omega)
    | (have k5 : decide (0 < e.group) = true := by simpa using g3
       have j1 : hasW e.kind 1 = true := g4)
    clear g1 g2 g3 hg
    rcases iOk_ok hi with ⟨i1, i2, i3⟩ | ⟨i1, i2⟩
    all_goals
      first
      | (have k6 : decide (e.id < 1) = false := by simpa using i2
         have k7 : decide (1073741824 ≤ e.id) = false := by simpa using i3
         have j2 : hasW e.kind 2 = true := i1
         clear i3)
      | (have k6 : (e.id != 0) = false := by simpa using i2
         have j2 : hasW e.kind 2 = false := i1)
      clear i2 hi
      cases hp : hasP e.kind
      · have j4 : hasW e.kind 4 = false := hp
        cases hz : decide (e.p = pz)
        all_goals
          go_enter Tryd.func22, Tryd.ntmps22
          go_wp2_with (first
            | (with_reducible refine stop_load 28 (.tmp 65) rfl rfl ?_)
            | (go_at_call 48; refine (c_edit_has e.kind _ _ (by omega) h7 (by decide)).mono ?_; rintro e1 w1 ⟨rfl, hb1⟩; replace BC := lh (BC.out.step hb1); clear q0 q1 q2; obtain ⟨q0, q1, q2⟩ := BC.out.edit))
          refine Stop.mk (wpList_loadAt rfl _ _ rfl w.heap.size 3 rfl e.p.arr (Edit.part BC.out.2) strP HZ.out ?_)
          go_wp2_with (with_reducible refine stop_bin .neq 28 (.tmp 66) (.tmp 67) 28 rfl ?_)
          refine Stop.mk (wpList_neqS (by rfl) _ _ _ _ rfl e.p.arr pz.arr rfl (by rw [pz_cells]; rfl) gP _ ((eq_patch HF.out rfl 9996 _).trans (by rw [hz])) ?_)
          go_wp2_with (fail)
          go_ret
          exact RetV.int (by rw [E.out, hp, if_neg (by decide)]; first | rw [if_pos (of_decide_eq_true hz)] | rw [if_neg (of_decide_eq_false hz)]) BC.out.1
      · have j4 : hasW e.kind 4 = true := hp
        go_enter Tryd.func22, Tryd.ntmps22
        go_wp2_with (first
          | (with_reducible refine stop_load 28 (.tmp 61) rfl rfl ?_)
          | (go_at_call 48; refine (c_edit_has e.kind _ _ (by omega) h7 (by decide)).mono ?_; rintro e1 w1 ⟨rfl, hb1⟩; replace BC := lh (BC.out.step hb1); clear q0 q1 q2; obtain ⟨q0, q1, q2⟩ := BC.out.edit))
        refine Stop.mk (wpList_loadAt rfl _ _ rfl w.heap.size 3 rfl e.p.arr (Edit.part BC.out.2) strP HZ.out ?_)
        go_wp2_with (go_at_call 25; refine (c_card_CheckPatch e.p _ hm HF.out hs).mono ?_; rintro e1 w1 ⟨rfl, hb1⟩; replace BC := lh (BC.out.step hb1))
        go_ret
        exact RetV.int (by rw [E.out, hp]; rfl) BC.out.1
end Go.Proofs.YtiedkcijjfmhaaaDoor
