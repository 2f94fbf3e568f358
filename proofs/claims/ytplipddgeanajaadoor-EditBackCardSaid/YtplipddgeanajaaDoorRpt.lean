/-
  Patches and edits taken off bytes, plain. No program is looked at here.
-/
import Derived.Test.YtplipddgeanajaaDoorRc
namespace Go.Proofs.YtplipddgeanajaaDoor
open Go.RowKit

/-! Patches. -/
def ptM (st : Rd) : Nat := (rdN st 511).toNat
def ptA (st : Rd) : Rd := rdAb' st 511
def ptL (st : Rd) : Nat := if (ptM st).testBit 8 then (rdN (ptA st) 65535).toNat else 0
def ptB (st : Rd) : Rd := if (ptM st).testBit 8 then rdN' (ptA st) 65535 else ptA st
def ptF (st : Rd) : List Val := rdFv true (bitsTo (ptM st) 8) (ptB st) f8z
@[irreducible] def rdPatch' (st : Rd) : Rd := rdFs' true (bitsTo (ptM st) 8) (ptB st)
def ptPatch (st : Rd) : Patch := ⟨ptM st, ptL st, ptF st⟩
@[irreducible] def rdPatch (st : Rd) : Patch := if (rdPatch' st).e = 0 then ptPatch st else pz
theorem rdPatch'_def (st : Rd) : rdPatch' st = rdFs' true (bitsTo (ptM st) 8) (ptB st) := by unfold rdPatch'; rfl
theorem rdPatch_ok {st : Rd} (h : (rdPatch' st).e = 0) : rdPatch st = ptPatch st := by unfold rdPatch; rw [if_pos h]
theorem rdPatch_bad {st : Rd} (h : (rdPatch' st).e ≠ 0) : rdPatch st = pz := by unfold rdPatch; rw [if_neg h]
theorem ptF_len (st : Rd) : (ptF st).length = 8 := by unfold ptF; rw [rdFv_len]; rfl
theorem rdPatch_len (st : Rd) : (rdPatch st).f.length = 8 := by
  unfold rdPatch; split
  · exact ptF_len st
  · rfl
theorem ptM_bd (st : Rd) : (ptM st : Int) = rdN st 511 ∧ ptM st ≤ 511 := by
  have := rdN_bd st 511
  unfold ptM
  omega
theorem ptL_bd (st : Rd) : ptL st ≤ 65535 := by
  have := rdN_bd (ptA st) 65535
  unfold ptL
  split <;> omega
theorem rdPatch_mask (st : Rd) : (rdPatch st).mask ≤ 511 ∧ (rdPatch st).lab ≤ 65535 := by
  unfold rdPatch; split
  · exact ⟨(ptM_bd st).2, ptL_bd st⟩
  · exact ⟨by show 0 ≤ 511; omega, by show 0 ≤ 65535; omega⟩
theorem rdPatch_vals (st : Rd) : ∀ x ∈ (rdPatch st).f, x.ok = true := by
  unfold rdPatch; split
  · exact rdFv_ok true _ _ _ f8z_ok
  · exact f8z_ok
theorem rdPatch_sizes (st : Rd) : ∀ x ∈ (rdPatch st).f, x.s.length ≤ 4294967000 := fun x hx => by have := Val.ok_len (rdPatch_vals st x hx); omega
theorem rdCard_vals (st : Rd) : ∀ x ∈ (rdCard st).f, x.ok = true := by
  unfold rdCard; split
  · exact rdFv_ok false _ _ _ f8z_ok
  · exact f8z_ok
theorem rdCard_sizes (st : Rd) : ∀ x ∈ (rdCard st).f, x.s.length ≤ 4294967000 := fun x hx => by have := Val.ok_len (rdCard_vals st x hx); omega
theorem ptB_yes {st : Rd} (h : (ptM st).testBit 8 = true) : ptB st = rdN' (ptA st) 65535 ∧ ptL st = (rdN (ptA st) 65535).toNat := by unfold ptB ptL; rw [if_pos h, if_pos h]; exact ⟨rfl, rfl⟩
theorem ptB_no {st : Rd} (h : (ptM st).testBit 8 = false) : ptB st = ptA st ∧ ptL st = 0 := by unfold ptB ptL; rw [if_neg (by simp [h]), if_neg (by simp [h])]; exact ⟨rfl, rfl⟩
theorem rdPatch'_len (st : Rd) : (rdPatch' st).s.length ≤ st.s.length := by
  have h1 := rdAb'_len st 511
  have h2 := rdN'_len (ptA st) 65535
  have h5 := rdFs'_len true (bitsTo (ptM st) 8) (ptB st)
  rw [rdPatch'_def]
  have e1 : ptA st = rdAb' st 511 := rfl
  rw [← e1] at h1
  have h3 : (ptB st).s.length ≤ (ptA st).s.length := by unfold ptB; split <;> omega
  omega
/-- A patch that may be is read of its bytes. -/
theorem rdPatch_put {p : Patch} (h : p.code = 0) (hf : p.f.length = 8) (r : List UInt8) : rdPatch ⟨patchB p ++ r, 0⟩ = p ∧ rdPatch' ⟨patchB p ++ r, 0⟩ = ⟨r, 0⟩ := by
  obtain ⟨a1, a2, a3, a4, a5⟩ := code_zero h
  have hfit : ∀ k, k < 8 → (at8 p.f k).ok = true ∧ ((at8 p.f k).kind = 0 ∨ p.mask.testBit k = true) := by
    intro k hk
    have := fits_at a5 (k := k) (by omega)
    unfold fitAt at this
    rw [at8_eq (by omega)]
    simpa using this
  obtain ⟨i1, i2⟩ := rdFs_put true p.f r (bitsTo p.mask 8) f8z (fun k h' => ⟨(hfit k (bitsTo_bd h')).1, fun h => by cases h⟩) (fun k h' => bitsTo_bd h')
  have hF : ∀ F : List Val, F.length = 8 → (∀ j, at8 F j = if j ∈ bitsTo p.mask 8 then at8 p.f j else at8 f8z j) → F = p.f := by
    intro F hF1 hF2
    refine at8_ext hF1 hf fun j hj => ?_
    rw [hF2 j]
    by_cases hj' : j ∈ bitsTo p.mask 8
    · rw [if_pos hj']
    · rw [if_neg hj', at8_f8z]
      have hk0 : (at8 p.f j).kind = 0 := ((hfit j hj).2).resolve_right (fun hb => hj' (bitsTo_mem.2 ⟨hj, hb⟩))
      exact (Val.ok_0 (hfit j hj).1 hk0).symm
  cases hb : p.mask.testBit 8
  · have e : patchB p ++ r = num p.mask ++ (bodyF p.f (bitsTo p.mask 8) ++ r) := by rw [patchB_no h hb]; simp
    obtain ⟨p1, q1⟩ := rdAb_num (n := p.mask) (most := 511) (bodyF p.f (bitsTo p.mask 8) ++ r) (by omega) (by omega) (by omega)
    have hM : ptM ⟨patchB p ++ r, 0⟩ = p.mask := by unfold ptM; rw [e, p1]; rfl
    have hA : ptA ⟨patchB p ++ r, 0⟩ = ⟨bodyF p.f (bitsTo p.mask 8) ++ r, 0⟩ := by unfold ptA; rw [e, q1]
    obtain ⟨b1, b2⟩ := ptB_no (st := ⟨patchB p ++ r, 0⟩) (by rw [hM]; exact hb)
    have hS : rdPatch' ⟨patchB p ++ r, 0⟩ = ⟨r, 0⟩ := by rw [rdPatch'_def, hM, b1, hA, i1]
    refine ⟨?_, hS⟩
    rw [rdPatch_ok (by rw [hS])]
    unfold ptPatch
    have : ptF ⟨patchB p ++ r, 0⟩ = p.f := hF _ (ptF_len _) (by unfold ptF; rw [hM, b1, hA]; exact i2)
    rw [this, hM, b2]
    have hl : p.lab = 0 := a4.resolve_right (by simp [hb])
    obtain ⟨m, l, f⟩ := p
    simp only at hl
    rw [hl]
  · have e : patchB p ++ r = num p.mask ++ (num p.lab ++ (bodyF p.f (bitsTo p.mask 8) ++ r)) := by rw [patchB_lab h hb]; simp
    obtain ⟨p1, q1⟩ := rdAb_num (n := p.mask) (most := 511) (num p.lab ++ (bodyF p.f (bitsTo p.mask 8) ++ r)) (by omega) (by omega) (by omega)
    obtain ⟨p2, q2⟩ := rdN_num (n := p.lab) (most := 65535) (bodyF p.f (bitsTo p.mask 8) ++ r) (by omega) (by omega) (by omega)
    have hM : ptM ⟨patchB p ++ r, 0⟩ = p.mask := by unfold ptM; rw [e, p1]; rfl
    have hA : ptA ⟨patchB p ++ r, 0⟩ = ⟨num p.lab ++ (bodyF p.f (bitsTo p.mask 8) ++ r), 0⟩ := by unfold ptA; rw [e, q1]
    obtain ⟨b1, b2⟩ := ptB_yes (st := ⟨patchB p ++ r, 0⟩) (by rw [hM]; exact hb)
    rw [hA] at b1 b2
    rw [q2] at b1
    rw [p2] at b2
    have hS : rdPatch' ⟨patchB p ++ r, 0⟩ = ⟨r, 0⟩ := by rw [rdPatch'_def, hM, b1, i1]
    refine ⟨?_, hS⟩
    rw [rdPatch_ok (by rw [hS])]
    unfold ptPatch
    have : ptF ⟨patchB p ++ r, 0⟩ = p.f := hF _ (ptF_len _) (by unfold ptF; rw [hM, b1]; exact i2)
    rw [this, hM, b2]
    rfl
/-- What was taken for a patch is its bytes, and it may be if its mask's fields may be. -/
theorem rdPatch_took {st : Rd} (h : (rdPatch' st).e = 0) : st.e = 0 ∧ (rdPatch st).code = 0 ∧ st.s = patchB (rdPatch st) ++ (rdPatch' st).s := by
  have hd := rdPatch'_def st
  rw [hd] at h
  have hb : ∀ k ∈ bitsTo (ptM st) 8, k < f8z.length := fun k hk => bitsTo_bd hk
  obtain ⟨e4, s4, -⟩ := rdFs_took true (bitsTo (ptM st) 8) (ptB st) f8z h (bitsTo_nodup _ _) hb
  have hr : rdPatch st = ptPatch st := rdPatch_ok (by rw [hd]; exact h)
  have hM := ptM_bd st
  have hfo : ∀ x ∈ ptF st, x.ok = true := rdFv_ok true _ _ _ f8z_ok
  have hfit : fits (ptM st) (ptF st) = true := by
    refine fits_yes fun k hk => ?_
    unfold fitAt
    rw [hfo _ (List.getElem_mem _), Bool.true_and]
    by_cases hkb : k ∈ bitsTo (ptM st) 8
    · rw [(bitsTo_mem.1 hkb).2, Bool.or_true]
    · have h1 : at8 (ptF st) k = vz := by unfold ptF; rw [rdFv_far true _ _ _ k hb hkb, at8_f8z]
      rw [at8_eq hk] at h1
      rw [h1]; rfl
  cases hb8 : (ptM st).testBit 8
  · obtain ⟨b1, b2⟩ := ptB_no hb8
    rw [b1] at e4
    obtain ⟨e0, s0, l0, m0⟩ := rdAb_took (st := st) (most := 511) e4
    have hc : (ptPatch st).code = 0 := by
      rw [Patch.code_f (p := ptPatch st) (show ptM st ≠ 0 by omega) (show ptM st ≤ 511 by omega) (show ptL st < 65536 by rw [b2]; omega) (Or.inl b2)]
      show (if fits (ptM st) (ptF st) = true then (0 : Int) else 1) = 0
      rw [if_pos hfit]
    refine ⟨e0, by rw [hr]; exact hc, ?_⟩
    rw [hr, patchB_no hc hb8, hd]
    show st.s = num (ptM st : Int) ++ bodyF (ptF st) (bitsTo (ptM st) 8) ++ _
    rw [hM.1, s0]
    show _ ++ (ptA st).s = _
    rw [← b1, s4]
    show _ ++ (bodyF (ptF st) _ ++ _) = _
    simp
  · obtain ⟨b1, b2⟩ := ptB_yes hb8
    rw [b1] at e4
    obtain ⟨e1, s1, l1, m1⟩ := rdN_took2 (st := ptA st) (most := 65535) e4
    obtain ⟨e0, s0, l0, m0⟩ := rdAb_took (st := st) (most := 511) e1
    have hL : (ptL st : Int) = rdN (ptA st) 65535 := by rw [b2]; omega
    have hc : (ptPatch st).code = 0 := by
      rw [Patch.code_f (p := ptPatch st) (show ptM st ≠ 0 by omega) (show ptM st ≤ 511 by omega) (show ptL st < 65536 by omega) (Or.inr hb8)]
      show (if fits (ptM st) (ptF st) = true then (0 : Int) else 1) = 0
      rw [if_pos hfit]
    refine ⟨e0, by rw [hr]; exact hc, ?_⟩
    rw [hr, patchB_lab hc hb8, hd]
    show st.s = num (ptM st : Int) ++ num (ptL st : Int) ++ bodyF (ptF st) (bitsTo (ptM st) 8) ++ _
    rw [hM.1, hL, s0]
    show _ ++ (ptA st).s = _
    rw [s1, ← b1, s4]
    show _ ++ (_ ++ (bodyF (ptF st) _ ++ _)) = _
    simp
/-! Edits. -/
abbrev ez : Edit := ⟨0, 0, 0, pz⟩
def edK (st : Rd) : Int := rdN st 7
def edA (st : Rd) : Rd := rdAb' st 7
def edG (st : Rd) : Int := if hasG (edK st) then rdN (edA st) 15 else 0
def edB (st : Rd) : Rd := if hasG (edK st) then rdN' (edA st) 15 else edA st
def edI (st : Rd) : Int := if hasI (edK st) then rdN (edB st) 1073741823 else 0
def edC (st : Rd) : Rd := if hasI (edK st) then rdAb' (edB st) 1073741823 else edB st
def edP (st : Rd) : Patch := if hasP (edK st) then rdPatch (edC st) else pz
@[irreducible] def rdEdit' (st : Rd) : Rd := if hasP (edK st) then (if (rdPatch (edC st)).code = 0 then rdPatch' (edC st) else rdF (rdPatch' (edC st)) 3) else edC st
def edEdit (st : Rd) : Edit := ⟨edK st, edI st, edG st, edP st⟩
@[irreducible] def rdEdit (st : Rd) : Edit := if (rdEdit' st).e = 0 then edEdit st else ez
theorem rdEdit'_def (st : Rd) : rdEdit' st = if hasP (edK st) then (if (rdPatch (edC st)).code = 0 then rdPatch' (edC st) else rdF (rdPatch' (edC st)) 3) else edC st := by unfold rdEdit'; rfl
theorem rdEdit_ok {st : Rd} (h : (rdEdit' st).e = 0) : rdEdit st = edEdit st := by unfold rdEdit; rw [if_pos h]
theorem rdEdit_bad {st : Rd} (h : (rdEdit' st).e ≠ 0) : rdEdit st = ez := by unfold rdEdit; rw [if_neg h]
theorem rdPatch_err {st : Rd} (h : st.e ≠ 0) : rdPatch st = pz ∧ rdPatch' st = st := by
  have h0 : ptM st = 0 := by unfold ptM; rw [(rdN_err h).1]; rfl
  have h1 : ptA st = st := rdAb'_bad h
  have h2 : rdPatch' st = st := by rw [rdPatch'_def, (ptB_no (by rw [h0]; rfl)).1, h1, rdFs'_bad h]
  exact ⟨rdPatch_bad (by rw [h2]; exact h), h2⟩
theorem pz_code : pz.code = 11 := Patch.code_mask (.inl rfl)
/-- The patch that was taken may be, unless something was wrong. -/
theorem rdEdit'_eq (st : Rd) : rdEdit' st = if hasP (edK st) then rdPatch' (edC st) else edC st := by
  rw [rdEdit'_def]
  split
  · by_cases h : (rdPatch' (edC st)).e = 0
    · rw [if_pos (rdPatch_took h).2.1]
    · rw [if_neg (by rw [rdPatch_bad h, pz_code]; decide), rdF_err h]
  · rfl
theorem edP_len (st : Rd) : (edP st).f.length = 8 := by
  unfold edP; split
  · exact rdPatch_len _
  · rfl
theorem rdEdit_len (st : Rd) : (rdEdit st).p.f.length = 8 := by
  unfold rdEdit; split
  · exact edP_len st
  · rfl
theorem rdEdit'_len (st : Rd) : (rdEdit' st).s.length ≤ st.s.length := by
  have h1 : (edA st).s.length ≤ st.s.length := rdAb'_len st 7
  have h2 := rdN'_len (edA st) 15
  have h3 : (edB st).s.length ≤ (edA st).s.length := by unfold edB; split <;> omega
  have h4 := rdAb'_len (edB st) 1073741823
  have h5 : (edC st).s.length ≤ (edB st).s.length := by unfold edC; split <;> omega
  have h6 := rdPatch'_len (edC st)
  rw [rdEdit'_eq]; split <;> omega
end Go.Proofs.YtplipddgeanajaaDoor
