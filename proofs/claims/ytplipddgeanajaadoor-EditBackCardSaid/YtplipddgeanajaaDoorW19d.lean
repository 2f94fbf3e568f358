/-
  The walk of the reference's Check of edits, joined; what an edit touches.
-/
import Derived.Test.YtplipddgeanajaaDoorW19c1
import Derived.Test.YtplipddgeanajaaDoorW19c2
import Derived.Test.YtplipddgeanajaaDoorW19c3
namespace Go.Proofs.YtplipddgeanajaaDoor
open Go.RowKit

theorem c_edit_Check (e : Edit) (w : World) (hf : e.p.f.length = 8) (hs : ∀ x ∈ e.p.f, x.s.length ≤ 4294967000) (hm : e.p.mask < 4294967296) : Calls Tryd.prog 60 #[.agg e.arr] w (RetV w (.int .i64 e.code)) := by
  by_cases hk : 1 ≤ e.kind ∧ e.kind ≤ 7
  · by_cases hg : e.gOk = true
    · by_cases hi : e.iOk = true
      · exact edit_Check_p e w hf hs hm hk.1 hk.2 hg hi
      · exact edit_Check_i e w hk.1 hk.2 hg hi
    · exact edit_Check_g e w hk.1 hk.2 hg
  · exact edit_Check_kind e w hk
theorem c_ref19_Check (e : Edit) (w : World) (hf : e.p.f.length = 8) (hs : ∀ x ∈ e.p.f, x.s.length ≤ 4294967000) (hm : e.p.mask < 4294967296) : Calls Tryd.prog 18 #[.agg e.arr] w (RetV w (.int .i64 e.code)) := by
  by_cases hk : 1 ≤ e.kind ∧ e.kind ≤ 7
  case neg => exact ref19_Check_kind e w hk
  obtain ⟨h1, h7⟩ := hk
  by_cases ha : hasG e.kind = false ∧ e.group ≠ 0
  · exact ref19_Check_a e w hf h1 h7 ha.1 ha.2
  have hg : hasG e.kind = true ∨ (hasG e.kind = false ∧ e.group = 0) := by
    cases h : hasG e.kind
    · exact .inr ⟨rfl, Classical.byContradiction fun h' => ha ⟨h, h'⟩⟩
    · exact .inl rfl
  by_cases hb : hasI e.kind = false ∧ e.id ≠ 0
  · exact ref19_Check_b e w hf h1 h7 hg hb.1 hb.2
  have hi : hasI e.kind = true ∨ (hasI e.kind = false ∧ e.id = 0) := by
    cases h : hasI e.kind
    · exact .inr ⟨rfl, Classical.byContradiction fun h' => hb ⟨h, h'⟩⟩
    · exact .inl rfl
  by_cases hc : hasP e.kind = false ∧ e.p ≠ pz
  · exact ref19_Check_c e w hf h1 h7 hg hi hc.1 hc.2
  have hp : hasP e.kind = true ∨ (hasP e.kind = false ∧ e.p = pz) := by
    cases h : hasP e.kind
    · exact .inr ⟨rfl, Classical.byContradiction fun h' => hc ⟨h, h'⟩⟩
    · exact .inl rfl
  by_cases hr : 0 ≤ e.group ∧ e.group < 16
  case neg =>
    have hr' : e.group < 0 ∨ (0 ≤ e.group ∧ 16 ≤ e.group) := by omega
    rcases hp with hp | ⟨hp, hp0⟩
    · exact ref19_Check_dP e w hf h1 h7 hg hi hr' hp
    · exact ref19_Check_dN e w hf h1 h7 hg hi hr' hp hp0
  have hgo : e.gOk = true := by
    unfold Edit.gOk
    simp only [Bool.and_eq_true, Bool.or_eq_true, decide_eq_true_eq]
    exact ⟨hr, hg.imp id And.right⟩
  by_cases hq : hasI e.kind = true ∧ ¬ (1 ≤ e.id ∧ e.id < 1073741824)
  · have hr' : e.id < 1 ∨ (1 ≤ e.id ∧ 1073741824 ≤ e.id) := by omega
    rcases hp with hp | ⟨hp, hp0⟩
    · exact ref19_Check_fP e w hf h1 h7 hg hq.1 hr.1 hr.2 hr' hp
    · exact ref19_Check_fN e w hf h1 h7 hg hq.1 hr.1 hr.2 hr' hp hp0
  have hi' : hasI e.kind = true ∧ 1 ≤ e.id ∧ e.id < 1073741824 ∨ (hasI e.kind = false ∧ e.id = 0) := by
    rcases hi with hi | hi
    · exact .inl ⟨hi, Classical.byContradiction fun h' => hq ⟨hi, h'⟩⟩
    · exact .inr hi
  have hio : e.iOk = true := by
    unfold Edit.iOk
    rcases hi' with ⟨h, h2⟩ | ⟨h, h2⟩
    · rw [h, if_pos rfl]; exact decide_eq_true h2
    · rw [h, if_neg (by decide)]; exact decide_eq_true h2
  rcases hp with hp | ⟨hp, hp0⟩
  · exact ref19_Check_kP e w hf hs hm h1 h7 hg hi' ⟨hgo, hio⟩ hp
  · exact ref19_Check_kN e w hf hs hm h1 h7 hg hi' ⟨hgo, hio⟩ hp hp0
theorem Edit.size {e : Edit} (hf : e.p.f.length = 8) : e.arr.size = 29 := by rw [Edit.arr_size, hf]
def Edit.touch (e : Edit) : Int := if e.code = 0 then e.id else 0
end Go.Proofs.YtplipddgeanajaaDoor
