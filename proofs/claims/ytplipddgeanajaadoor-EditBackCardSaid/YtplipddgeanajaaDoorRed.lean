/-
  An edit is read of its bytes, and what is read has just the bytes that were taken. No program is looked at here.
-/
import Derived.Test.YtplipddgeanajaaDoorRpt
namespace Go.Proofs.YtplipddgeanajaaDoor
open Go.RowKit

theorem gOk_iff {e : Edit} (h : e.gOk = true) : 0 ≤ e.group ∧ e.group < 16 ∧ (hasG e.kind = false → e.group = 0) := by
  unfold Edit.gOk at h
  simp only [Bool.and_eq_true, Bool.or_eq_true, decide_eq_true_eq] at h
  exact ⟨h.1.1, h.1.2, fun hg => h.2.resolve_left (by simp [hg])⟩
theorem iOk_iff {e : Edit} (h : e.iOk = true) : (hasI e.kind = true → 1 ≤ e.id ∧ e.id < 1073741824) ∧ (hasI e.kind = false → e.id = 0) := by
  unfold Edit.iOk at h
  cases hi : hasI e.kind
  · rw [hi] at h
    exact ⟨fun h' => (by cases h'), fun _ => by simpa using h⟩
  · rw [hi] at h
    exact ⟨fun _ => by simpa using h, fun h' => by cases h'⟩
theorem editB_ok {e : Edit} (h : e.code = 0) : editB e = num e.kind ++ (if hasG e.kind then num e.group else []) ++ (if hasI e.kind then num e.id else []) ++ (if hasP e.kind then patchB e.p else []) := by unfold editB; rw [if_pos h]
theorem editB_bad {e : Edit} (h : e.code ≠ 0) : editB e = [] := by unfold editB; rw [if_neg h]
/-- An edit that may be is read of its bytes. -/
theorem rdEdit_put {e : Edit} (h : e.code = 0) (hf : e.p.f.length = 8) (r : List UInt8) : rdEdit ⟨editB e ++ r, 0⟩ = e ∧ rdEdit' ⟨editB e ++ r, 0⟩ = ⟨r, 0⟩ := by
  obtain ⟨h1, h7, hg, hi, hp, hz⟩ := Edit.code_zero h
  obtain ⟨g0, g1, g2⟩ := gOk_iff hg
  obtain ⟨i1, i2⟩ := iOk_iff hi
  obtain ⟨xp, hxp⟩ : ∃ x, x = (if hasP e.kind then patchB e.p else []) ++ r := ⟨_, rfl⟩
  obtain ⟨xi, hxi⟩ : ∃ x, x = (if hasI e.kind then num e.id else []) ++ xp := ⟨_, rfl⟩
  obtain ⟨xg, hxg⟩ : ∃ x, x = (if hasG e.kind then num e.group else []) ++ xi := ⟨_, rfl⟩
  have e0 : editB e ++ r = num e.kind ++ xg := by rw [editB_ok h, hxg, hxi, hxp]; simp
  rw [e0]
  obtain ⟨p1, q1⟩ := rdAb_num (n := e.kind) (most := 7) xg (by omega) (by omega) (by omega)
  have hK : edK ⟨num e.kind ++ xg, 0⟩ = e.kind := p1
  have hA : edA ⟨num e.kind ++ xg, 0⟩ = ⟨xg, 0⟩ := q1
  have hB : edB ⟨num e.kind ++ xg, 0⟩ = ⟨xi, 0⟩ ∧ edG ⟨num e.kind ++ xg, 0⟩ = e.group := by
    unfold edB edG
    rw [hK, hA, hxg]
    cases hh : hasG e.kind
    · exact ⟨by rw [if_neg (by decide)]; rfl, by rw [if_neg (by decide), g2 hh]⟩
    · obtain ⟨p2, q2⟩ := rdN_num (n := e.group) (most := 15) xi (by omega) (by omega) (by omega)
      exact ⟨by rw [if_pos rfl, if_pos rfl, q2], by rw [if_pos rfl, if_pos rfl, p2]⟩
  have hC : edC ⟨num e.kind ++ xg, 0⟩ = ⟨xp, 0⟩ ∧ edI ⟨num e.kind ++ xg, 0⟩ = e.id := by
    unfold edC edI
    rw [hK, hB.1, hxi]
    cases hh : hasI e.kind
    · exact ⟨by rw [if_neg (by decide)]; rfl, by rw [if_neg (by decide), i2 hh]⟩
    · obtain ⟨k1, k2⟩ := i1 hh
      obtain ⟨p2, q2⟩ := rdAb_num (n := e.id) (most := 1073741823) xp (by omega) (by omega) (by omega)
      exact ⟨by rw [if_pos rfl, if_pos rfl, q2], by rw [if_pos rfl, if_pos rfl, p2]⟩
  have hD : rdEdit' ⟨num e.kind ++ xg, 0⟩ = ⟨r, 0⟩ ∧ edP ⟨num e.kind ++ xg, 0⟩ = e.p := by
    unfold edP
    rw [rdEdit'_eq, hK, hC.1, hxp]
    cases hh : hasP e.kind
    · exact ⟨by rw [if_neg (by decide)]; rfl, by rw [if_neg (by decide), hz hh]⟩
    · obtain ⟨p2, q2⟩ := rdPatch_put (hp hh) hf r
      exact ⟨by rw [if_pos rfl, if_pos rfl, q2], by rw [if_pos rfl, if_pos rfl, p2]⟩
  refine ⟨?_, hD.1⟩
  rw [rdEdit_ok (by rw [hD.1])]
  unfold edEdit
  rw [hK, hB.2, hC.2, hD.2]
theorem edC_took {st : Rd} (h : (edC st).e = 0) : (edB st).e = 0 ∧ (edB st).s = (if hasI (edK st) then num (edI st) else []) ++ (edC st).s ∧ (hasI (edK st) = true → 1 ≤ edI st ∧ edI st < 1073741824) ∧ (hasI (edK st) = false → edI st = 0) := by
  unfold edC at h ⊢
  unfold edI
  cases hh : hasI (edK st)
  · rw [hh, if_neg (by decide)] at h
    rw [if_neg (by decide), if_neg (by decide), if_neg (by decide)]
    exact ⟨h, rfl, fun h => (by cases h), fun _ => rfl⟩
  · rw [hh, if_pos rfl] at h
    obtain ⟨a, b, c, d⟩ := rdAb_took h
    rw [if_pos rfl, if_pos rfl, if_pos rfl]
    exact ⟨a, b, fun _ => ⟨c, by omega⟩, fun h => (by cases h)⟩
theorem edB_took {st : Rd} (h : (edB st).e = 0) : (edA st).e = 0 ∧ (edA st).s = (if hasG (edK st) then num (edG st) else []) ++ (edB st).s ∧ (0 ≤ edG st ∧ edG st < 16) ∧ (hasG (edK st) = false → edG st = 0) := by
  unfold edB at h ⊢
  unfold edG
  cases hh : hasG (edK st)
  · rw [hh, if_neg (by decide)] at h
    rw [if_neg (by decide), if_neg (by decide), if_neg (by decide)]
    exact ⟨h, rfl, by omega, fun _ => rfl⟩
  · rw [hh, if_pos rfl] at h
    obtain ⟨a, b, c, d⟩ := rdN_took2 h
    rw [if_pos rfl, if_pos rfl, if_pos rfl]
    exact ⟨a, b, by omega, fun h => (by cases h)⟩
theorem edD_took {st : Rd} (h : (rdEdit' st).e = 0) : (edC st).e = 0 ∧ (edC st).s = (if hasP (edK st) then patchB (edP st) else []) ++ (rdEdit' st).s ∧ (hasP (edK st) = true → (edP st).code = 0) ∧ (hasP (edK st) = false → edP st = pz) := by
  rw [rdEdit'_eq] at h ⊢
  unfold edP
  cases hh : hasP (edK st)
  · rw [hh, if_neg (by decide)] at h
    rw [if_neg (by decide), if_neg (by decide), if_neg (by decide)]
    exact ⟨h, rfl, fun h => (by cases h), fun _ => rfl⟩
  · rw [hh, if_pos rfl] at h
    obtain ⟨a, b, c⟩ := rdPatch_took h
    rw [if_pos rfl, if_pos rfl, if_pos rfl]
    exact ⟨a, c, fun _ => b, fun h => (by cases h)⟩
/-- What was taken for an edit is its bytes, and it may be. -/
theorem rdEdit_took {st : Rd} (h : (rdEdit' st).e = 0) : st.e = 0 ∧ (rdEdit st).code = 0 ∧ st.s = editB (rdEdit st) ++ (rdEdit' st).s := by
  obtain ⟨e3, s3, p1, p2⟩ := edD_took h
  obtain ⟨e2, s2, i1, i2⟩ := edC_took e3
  obtain ⟨e1, s1, g1, g2⟩ := edB_took e2
  obtain ⟨e0, s0, l0, m0⟩ := rdAb_took (st := st) (most := 7) e1
  have hr := rdEdit_ok h
  have hc : (edEdit st).code = 0 := by
    have hG : (edEdit st).gOk = true := by
      unfold Edit.gOk edEdit
      simp only [Bool.and_eq_true, Bool.or_eq_true, decide_eq_true_eq]
      refine ⟨g1, ?_⟩
      cases hh : hasG (edK st)
      · exact .inr (g2 hh)
      · exact .inl rfl
    have hI : (edEdit st).iOk = true := by
      unfold Edit.iOk edEdit
      show (if hasI (edK st) = true then decide (1 ≤ edI st ∧ edI st < 1073741824) else decide (edI st = 0)) = true
      cases hh : hasI (edK st)
      · rw [if_neg (by decide), i2 hh]; rfl
      · rw [if_pos rfl]; exact decide_eq_true (i1 hh)
    rw [Edit.code_p (show 1 ≤ edK st from l0) (show edK st ≤ 7 from m0) hG hI]
    show (if hasP (edK st) = true then (edP st).code else if edP st = pz then 0 else 1) = 0
    cases hh : hasP (edK st)
    · rw [if_neg (by decide), if_pos (p2 hh)]
    · rw [if_pos rfl]; exact p1 hh
  refine ⟨e0, by rw [hr]; exact hc, ?_⟩
  rw [hr, editB_ok hc]
  show st.s = num (edK st) ++ (if hasG (edK st) = true then num (edG st) else []) ++ (if hasI (edK st) = true then num (edI st) else []) ++ (if hasP (edK st) = true then patchB (edP st) else []) ++ _
  rw [s0]
  show _ ++ (edA st).s = _
  rw [s1, s2, s3]
  simp
  rfl
end Go.Proofs.YtplipddgeanajaaDoor
