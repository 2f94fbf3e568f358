/-
  Lemmas (walks and plain laws), in one text.
-/
import Derived.Test.YtjhndilflcigiaaDoorQc8
import Derived.Test.YtjhndilflcigiaaDoorRows
import Derived.WalkKit
import Derived.WalkSpells
import Derived.WalkLawsBesides
import Derived.Lib.Hide
import Derived.Deep.QuietTactic
import Derived.BigQuiet
import Derived.Maps.AppendAt
import Derived.WalkSmall
import Derived.ProofKit
import Derived.OpenShut
import Derived.JoinedCond
import Derived.Deep.Slices
import Derived.Deep.Fields
import Derived.Carry
import Derived.Deep.AppendSrc
import Derived.Lib.AppendStr
import Derived.Laws.BytesArg
import Derived.Test.YtjhndilflcigiaaDoorProg
import Derived.Shelf.Spec.TrailingZeros
import Derived.RangeFuncNested
import Derived.RangeFuncBound
import Derived.RangeFuncCalls
import Derived.RangeFuncLeaves
import Derived.Shelf.Abstract
import Derived.Shelf.RegionOpen
import Derived.OwnWalkIn
import Derived.TacticsInMore
import Derived.LoopNIn
import Derived.LoopIn
import Derived.Test.YtjhndilflcigiaaDoorTie
import Derived.Lib.LaidTab
import Derived.LaidMore
import Derived.SevenTiedAt
import Derived.Test.YtjhndilflcigiaaDoorCards
import Derived.Laws.Tables
import Derived.Laws.Rows
import Derived.ChangeKeysEq
import Derived.Laws.StructEq
import Derived.Deep.CutBlock
import Derived.Deep.DeepCutAuto
import Derived.Laws.CopyOwn
import Derived.Outline
import Derived.IntWalk
import Derived.Lib.EndianBits
import Derived.StillTail
import Derived.Lib.AppendZeros
import Derived.Deep.Quiet
import Derived.Maps.Own
import Derived.WalkMore
namespace Go.Proofs.YtjhndilflcigiaaDoor
open Go.RowKit

/-! The values of fields. -/
def fldS (b : Bool) (st : Rd) : Rd := if b = false ∧ (rdVal st).kind = 0 then rdF (rdVal' st) 3 else rdVal' st
theorem fldS_true (st : Rd) : fldS true st = rdVal' st := by unfold fldS; rw [if_neg (by simp)]
theorem fldS_zero {st : Rd} (h : (rdVal st).kind = 0) : fldS false st = rdF (rdVal' st) 3 := by unfold fldS; rw [if_pos ⟨rfl, h⟩]
theorem fldS_pos {b : Bool} {st : Rd} (h : (rdVal st).kind ≠ 0) : fldS b st = rdVal' st := by unfold fldS; rw [if_neg (fun k => h k.2)]
theorem fldS_bad {b : Bool} {st : Rd} (h : st.e ≠ 0) : fldS b st = st := by
  unfold fldS
  rw [(rdVal_err h).2]
  split
  · exact rdF_err h
  · rfl
theorem fldS_ok {b : Bool} {st : Rd} (h : (fldS b st).e = 0) : fldS b st = rdVal' st ∧ (rdVal' st).e = 0 ∧ (b = false → (rdVal st).kind ≠ 0) := by
  unfold fldS at h ⊢
  by_cases hc : b = false ∧ (rdVal st).kind = 0
  · rw [if_pos hc] at h
    exact absurd h (rdF_bad _ (by decide))
  · rw [if_neg hc] at h ⊢
    exact ⟨rfl, h, fun hb hk => hc ⟨hb, hk⟩⟩
theorem fldS_len (b : Bool) (st : Rd) : (fldS b st).s.length ≤ st.s.length := by
  have := rdVal'_len st
  unfold fldS; split
  · rw [rdF_s]; exact this
  · exact this
def rdFs' (b : Bool) : List Nat → Rd → Rd
  | [], st => st
  | _ :: l, st => rdFs' b l (fldS b st)
def rdFv (b : Bool) : List Nat → Rd → List Val → List Val
  | [], _, f => f
  | k :: l, st, f => rdFv b l (fldS b st) (f.set k (rdVal st))
theorem rdFs'_bad {b : Bool} {st : Rd} (h : st.e ≠ 0) : ∀ l, rdFs' b l st = st
  | [] => rfl
  | _ :: l => by rw [rdFs', fldS_bad h]; exact rdFs'_bad h l
theorem rdFs'_len (b : Bool) : ∀ l st, (rdFs' b l st).s.length ≤ st.s.length
  | [], _ => Nat.le_refl _
  | _ :: l, st => by have := rdFs'_len b l (fldS b st); have := fldS_len b st; rw [rdFs']; omega
theorem rdFv_len (b : Bool) : ∀ l st f, (rdFv b l st f).length = f.length
  | [], _, _ => rfl
  | k :: l, st, f => by rw [rdFv, rdFv_len b l]; simp
theorem rdFv_ok (b : Bool) : ∀ l st f, (∀ x ∈ f, x.ok = true) → ∀ x ∈ rdFv b l st f, x.ok = true
  | [], _, _, h => h
  | k :: l, st, f, h => by
    refine rdFv_ok b l _ _ fun x hx => ?_
    rcases List.mem_or_eq_of_mem_set hx with h' | rfl
    · exact h x h'
    · exact rdVal_ok st
theorem at8_set {f : List Val} {k : Nat} (h : k < f.length) (x : Val) (j : Nat) : at8 (f.set k x) j = if j = k then x else at8 f j := by
  unfold at8
  rw [List.getD_eq_getElem?_getD, List.getD_eq_getElem?_getD, List.getElem?_set]
  by_cases hj : j = k
  · subst hj; simp [h]
  · rw [if_neg (fun e => hj e.symm), if_neg hj]
theorem at8_f8z (k : Nat) : at8 f8z k = vz := by
  unfold at8
  rw [List.getD_eq_getElem?_getD, List.getElem?_replicate]
  split <;> rfl
theorem rdFv_far (b : Bool) : ∀ l st f k, (∀ j ∈ l, j < f.length) → k ∉ l → at8 (rdFv b l st f) k = at8 f k
  | [], _, _, _, _, _ => rfl
  | j :: l, st, f, k, hl, hk => by
    rw [rdFv, rdFv_far b l _ _ k (fun i hi => by rw [List.length_set]; exact hl i (List.mem_cons_of_mem _ hi)) (fun h => hk (List.mem_cons_of_mem _ h)), at8_set (hl j (List.mem_cons_self ..))]
    rw [if_neg (fun e => hk (by rw [e]; exact List.mem_cons_self ..))]
/-- Fields are read of their bytes. -/
theorem rdFs_put (b : Bool) (f : List Val) (r : List UInt8) : ∀ l g, (∀ k ∈ l, (at8 f k).ok = true ∧ (b = false → (at8 f k).kind ≠ 0)) → (∀ k ∈ l, k < g.length) →
    rdFs' b l ⟨bodyF f l ++ r, 0⟩ = ⟨r, 0⟩ ∧ ∀ j, at8 (rdFv b l ⟨bodyF f l ++ r, 0⟩ g) j = if j ∈ l then at8 f j else at8 g j
  | [], g, _, _ => ⟨rfl, fun j => by rw [if_neg (by simp)]; rfl⟩
  | k :: l, g, h, hg => by
    obtain ⟨h1, h2⟩ := h k (List.mem_cons_self ..)
    obtain ⟨a, c⟩ := rdVal_put h1 (bodyF f l ++ r)
    have e : bodyF f (k :: l) ++ r = valB (at8 f k) ++ (bodyF f l ++ r) := by unfold bodyF; rw [List.flatMap_cons, List.append_assoc]
    have hs : fldS b ⟨bodyF f (k :: l) ++ r, 0⟩ = ⟨bodyF f l ++ r, 0⟩ := by
      rw [e]
      cases b
      · rw [fldS_pos (by rw [a]; exact h2 rfl), c]
      · rw [fldS_true, c]
    obtain ⟨i1, i2⟩ := rdFs_put b f r l (g.set k (rdVal ⟨bodyF f (k :: l) ++ r, 0⟩)) (fun j hj => h j (List.mem_cons_of_mem _ hj)) (fun j hj => by rw [List.length_set]; exact hg j (List.mem_cons_of_mem _ hj))
    rw [rdFs', rdFv, hs]
    refine ⟨i1, fun j => ?_⟩
    rw [i2 j, at8_set (hg k (List.mem_cons_self ..)), e, a]
    by_cases hj : j ∈ l
    · rw [if_pos hj, if_pos (List.mem_cons_of_mem _ hj)]
    · rw [if_neg hj]
      by_cases hk : j = k
      · subst hk; rw [if_pos rfl, if_pos (List.mem_cons_self ..)]
      · rw [if_neg hk, if_neg (fun h => (List.mem_cons.1 h).elim hk hj)]
/-- What was taken for fields is their bytes. -/
theorem rdFs_took (b : Bool) : ∀ l st g, (rdFs' b l st).e = 0 → l.Nodup → (∀ k ∈ l, k < g.length) →
    st.e = 0 ∧ st.s = bodyF (rdFv b l st g) l ++ (rdFs' b l st).s ∧ (b = false → ∀ k ∈ l, (at8 (rdFv b l st g) k).kind ≠ 0)
  | [], st, g, h, _, _ => ⟨h, rfl, fun _ _ hk => by cases hk⟩
  | k :: l, st, g, h, hn, hg => by
    obtain ⟨n1, n2⟩ := List.nodup_cons.1 hn
    rw [rdFs'] at h
    have hg' : ∀ j ∈ l, j < (g.set k (rdVal st)).length := fun j hj => by rw [List.length_set]; exact hg j (List.mem_cons_of_mem _ hj)
    obtain ⟨i1, i2, i3⟩ := rdFs_took b l (fldS b st) (g.set k (rdVal st)) h n2 hg'
    obtain ⟨s1, s2, s3⟩ := fldS_ok i1
    obtain ⟨t1, t2, t3⟩ := rdVal_took s2
    have hv : at8 (rdFv b (k :: l) st g) k = rdVal st := by rw [rdFv, rdFv_far b l _ _ k hg' n1, at8_set (hg k (List.mem_cons_self ..)), if_pos rfl]
    refine ⟨t1, ?_, fun hb j hj => ?_⟩
    · rw [t3]
      show _ = (valB (at8 (rdFv b (k :: l) st g) k) ++ bodyF (rdFv b (k :: l) st g) l) ++ _
      rw [hv, List.append_assoc, rdFs', rdFv]
      congr 1
      rw [← s1]; exact i2
    · rcases List.mem_cons.1 hj with rfl | hj
      · rw [hv]; exact s3 hb
      · rw [rdFv]; exact i3 hb j hj
/-! The fields of a mask, from one on. -/
def bitsFrom (m k : Nat) : List Nat := (List.range' k (8 - k)).filter m.testBit
theorem bitsFrom_yes {m k : Nat} (hk : k < 8) (h : m.testBit k = true) : bitsFrom m k = k :: bitsFrom m (k + 1) := by
  unfold bitsFrom
  rw [show 8 - k = (8 - (k + 1)) + 1 by omega, List.range'_succ, List.filter_cons_of_pos h]
theorem bitsFrom_no {m k : Nat} (hk : k < 8) (h : m.testBit k = false) : bitsFrom m k = bitsFrom m (k + 1) := by
  unfold bitsFrom
  rw [show 8 - k = (8 - (k + 1)) + 1 by omega, List.range'_succ, List.filter_cons_of_neg (by simp [h])]
theorem bitsTo_nodup (m k : Nat) : (bitsTo m k).Nodup := List.Pairwise.filter _ List.nodup_range
theorem bitsTo_mem {m k j : Nat} : j ∈ bitsTo m k ↔ j < k ∧ m.testBit j = true := by unfold bitsTo; rw [List.mem_filter, List.mem_range]
theorem at8_ext {f g : List Val} (hf : f.length = 8) (hg : g.length = 8) (h : ∀ j, j < 8 → at8 f j = at8 g j) : f = g := by
  apply List.ext_getElem (by omega)
  intro i h1 h2
  have := h i (by omega)
  rw [at8_eq h1, at8_eq h2] at this
  exact this
/-! Cards. -/
def cdA (st : Rd) : Rd := rdAb' st 1073741823
def cdB (st : Rd) : Rd := rdAb' (cdA st) 1099511627776
def cdC (st : Rd) : Rd := rdN' (cdB st) 65535
def cdD (st : Rd) : Rd := rdN' (cdC st) 255
def cdM (st : Rd) : Nat := (rdN (cdC st) 255).toNat
def cdF (st : Rd) : List Val := rdFv false (bitsTo (cdM st) 8) (cdD st) f8z
@[irreducible] def rdCard' (st : Rd) : Rd := rdFs' false (bitsTo (cdM st) 8) (cdD st)
def cdCard (st : Rd) : Card := ⟨rdN st 1073741823, rdN (cdA st) 1099511627776, (rdN (cdB st) 65535).toNat, cdF st⟩
@[irreducible] def rdCard (st : Rd) : Card := if (rdCard' st).e = 0 then cdCard st else cz
theorem f8z_ok : ∀ x ∈ f8z, x.ok = true := fun x hx => by rw [List.eq_of_mem_replicate hx]; decide
end Go.Proofs.YtjhndilflcigiaaDoor
namespace Go.Proofs.YtjhndilflcigiaaDoor
open Go.RowKit

/-! Patches. -/
def ptM (st : Rd) : Nat := (rdN st 511).toNat
def ptA (st : Rd) : Rd := rdAb' st 511
def ptL (st : Rd) : Nat := if (ptM st).testBit 8 then (rdN (ptA st) 65535).toNat else 0
def ptB (st : Rd) : Rd := if (ptM st).testBit 8 then rdN' (ptA st) 65535 else ptA st
def ptF (st : Rd) : List Val := rdFv true (bitsTo (ptM st) 8) (ptB st) f8z
@[irreducible] def rdPatch' (st : Rd) : Rd := rdFs' true (bitsTo (ptM st) 8) (ptB st)
def ptPatch (st : Rd) : Patch := ⟨ptM st, ptL st, ptF st⟩
@[irreducible] def rdPatch (st : Rd) : Patch := if (rdPatch' st).e = 0 then ptPatch st else pz
theorem rdPatch'_def (st : Rd) : rdPatch' st = rdFs' true (bitsTo (ptM st) 8) (ptB st) := by unfold rdPatch'; rfl
theorem rdPatch_ok {st : Rd} (h : (rdPatch' st).e = 0) : rdPatch st = ptPatch st := by unfold rdPatch; rw [if_pos h]
theorem rdPatch_bad {st : Rd} (h : (rdPatch' st).e ≠ 0) : rdPatch st = pz := by unfold rdPatch; rw [if_neg h]
theorem ptF_len (st : Rd) : (ptF st).length = 8 := by unfold ptF; rw [rdFv_len]; rfl
theorem rdPatch_len (st : Rd) : (rdPatch st).f.length = 8 := by
  unfold rdPatch; split
  · exact ptF_len st
  · rfl
theorem ptM_bd (st : Rd) : (ptM st : Int) = rdN st 511 ∧ ptM st ≤ 511 := by
  have := rdN_bd st 511
  unfold ptM
  omega
theorem ptL_bd (st : Rd) : ptL st ≤ 65535 := by
  have := rdN_bd (ptA st) 65535
  unfold ptL
  split <;> omega
theorem rdPatch_mask (st : Rd) : (rdPatch st).mask ≤ 511 ∧ (rdPatch st).lab ≤ 65535 := by
  unfold rdPatch; split
  · exact ⟨(ptM_bd st).2, ptL_bd st⟩
  · exact ⟨by show 0 ≤ 511; omega, by show 0 ≤ 65535; omega⟩
theorem rdPatch_vals (st : Rd) : ∀ x ∈ (rdPatch st).f, x.ok = true := by
  unfold rdPatch; split
  · exact rdFv_ok true _ _ _ f8z_ok
  · exact f8z_ok
theorem rdPatch_sizes (st : Rd) : ∀ x ∈ (rdPatch st).f, x.s.length ≤ 4294967000 := fun x hx => by have := Val.ok_len (rdPatch_vals st x hx); omega
theorem ptB_yes {st : Rd} (h : (ptM st).testBit 8 = true) : ptB st = rdN' (ptA st) 65535 ∧ ptL st = (rdN (ptA st) 65535).toNat := by unfold ptB ptL; rw [if_pos h, if_pos h]; exact ⟨rfl, rfl⟩
theorem ptB_no {st : Rd} (h : (ptM st).testBit 8 = false) : ptB st = ptA st ∧ ptL st = 0 := by unfold ptB ptL; rw [if_neg (by simp [h]), if_neg (by simp [h])]; exact ⟨rfl, rfl⟩
theorem rdPatch'_len (st : Rd) : (rdPatch' st).s.length ≤ st.s.length := by
  have h1 := rdAb'_len st 511
  have h2 := rdN'_len (ptA st) 65535
  have h5 := rdFs'_len true (bitsTo (ptM st) 8) (ptB st)
  rw [rdPatch'_def]
  have e1 : ptA st = rdAb' st 511 := rfl
  rw [← e1] at h1
  have h3 : (ptB st).s.length ≤ (ptA st).s.length := by unfold ptB; split <;> omega
  omega
/-- A patch that may be is read of its bytes. -/
theorem rdPatch_put {p : Patch} (h : p.code = 0) (hf : p.f.length = 8) (r : List UInt8) : rdPatch ⟨patchB p ++ r, 0⟩ = p ∧ rdPatch' ⟨patchB p ++ r, 0⟩ = ⟨r, 0⟩ := by
  obtain ⟨a1, a2, a3, a4, a5⟩ := code_zero h
  have hfit : ∀ k, k < 8 → (at8 p.f k).ok = true ∧ ((at8 p.f k).kind = 0 ∨ p.mask.testBit k = true) := by
    intro k hk
    have := fits_at a5 (k := k) (by omega)
    unfold fitAt at this
    rw [at8_eq (by omega)]
    simpa using this
  obtain ⟨i1, i2⟩ := rdFs_put true p.f r (bitsTo p.mask 8) f8z (fun k h' => ⟨(hfit k (bitsTo_bd h')).1, fun h => by cases h⟩) (fun k h' => bitsTo_bd h')
  have hF : ∀ F : List Val, F.length = 8 → (∀ j, at8 F j = if j ∈ bitsTo p.mask 8 then at8 p.f j else at8 f8z j) → F = p.f := by
    intro F hF1 hF2
    refine at8_ext hF1 hf fun j hj => ?_
    rw [hF2 j]
    by_cases hj' : j ∈ bitsTo p.mask 8
    · rw [if_pos hj']
    · rw [if_neg hj', at8_f8z]
      have hk0 : (at8 p.f j).kind = 0 := ((hfit j hj).2).resolve_right (fun hb => hj' (bitsTo_mem.2 ⟨hj, hb⟩))
      exact (Val.ok_0 (hfit j hj).1 hk0).symm
  cases hb : p.mask.testBit 8
  · have e : patchB p ++ r = num p.mask ++ (bodyF p.f (bitsTo p.mask 8) ++ r) := by rw [patchB_no h hb]; simp
    obtain ⟨p1, q1⟩ := rdAb_num (n := p.mask) (most := 511) (bodyF p.f (bitsTo p.mask 8) ++ r) (by omega) (by omega) (by omega)
    have hM : ptM ⟨patchB p ++ r, 0⟩ = p.mask := by unfold ptM; rw [e, p1]; rfl
    have hA : ptA ⟨patchB p ++ r, 0⟩ = ⟨bodyF p.f (bitsTo p.mask 8) ++ r, 0⟩ := by unfold ptA; rw [e, q1]
    obtain ⟨b1, b2⟩ := ptB_no (st := ⟨patchB p ++ r, 0⟩) (by rw [hM]; exact hb)
    have hS : rdPatch' ⟨patchB p ++ r, 0⟩ = ⟨r, 0⟩ := by rw [rdPatch'_def, hM, b1, hA, i1]
    refine ⟨?_, hS⟩
    rw [rdPatch_ok (by rw [hS])]
    unfold ptPatch
    have : ptF ⟨patchB p ++ r, 0⟩ = p.f := hF _ (ptF_len _) (by unfold ptF; rw [hM, b1, hA]; exact i2)
    rw [this, hM, b2]
    have hl : p.lab = 0 := a4.resolve_right (by simp [hb])
    obtain ⟨m, l, f⟩ := p
    simp only at hl
    rw [hl]
  · have e : patchB p ++ r = num p.mask ++ (num p.lab ++ (bodyF p.f (bitsTo p.mask 8) ++ r)) := by rw [patchB_lab h hb]; simp
    obtain ⟨p1, q1⟩ := rdAb_num (n := p.mask) (most := 511) (num p.lab ++ (bodyF p.f (bitsTo p.mask 8) ++ r)) (by omega) (by omega) (by omega)
    obtain ⟨p2, q2⟩ := rdN_num (n := p.lab) (most := 65535) (bodyF p.f (bitsTo p.mask 8) ++ r) (by omega) (by omega) (by omega)
    have hM : ptM ⟨patchB p ++ r, 0⟩ = p.mask := by unfold ptM; rw [e, p1]; rfl
    have hA : ptA ⟨patchB p ++ r, 0⟩ = ⟨num p.lab ++ (bodyF p.f (bitsTo p.mask 8) ++ r), 0⟩ := by unfold ptA; rw [e, q1]
    obtain ⟨b1, b2⟩ := ptB_yes (st := ⟨patchB p ++ r, 0⟩) (by rw [hM]; exact hb)
    rw [hA] at b1 b2
    rw [q2] at b1
    rw [p2] at b2
    have hS : rdPatch' ⟨patchB p ++ r, 0⟩ = ⟨r, 0⟩ := by rw [rdPatch'_def, hM, b1, i1]
    refine ⟨?_, hS⟩
    rw [rdPatch_ok (by rw [hS])]
    unfold ptPatch
    have : ptF ⟨patchB p ++ r, 0⟩ = p.f := hF _ (ptF_len _) (by unfold ptF; rw [hM, b1]; exact i2)
    rw [this, hM, b2]
    rfl
/-- What was taken for a patch is its bytes, and it may be if its mask's fields may be. -/
theorem rdPatch_took {st : Rd} (h : (rdPatch' st).e = 0) : st.e = 0 ∧ (rdPatch st).code = 0 ∧ st.s = patchB (rdPatch st) ++ (rdPatch' st).s := by
  have hd := rdPatch'_def st
  rw [hd] at h
  have hb : ∀ k ∈ bitsTo (ptM st) 8, k < f8z.length := fun k hk => bitsTo_bd hk
  obtain ⟨e4, s4, -⟩ := rdFs_took true (bitsTo (ptM st) 8) (ptB st) f8z h (bitsTo_nodup _ _) hb
  have hr : rdPatch st = ptPatch st := rdPatch_ok (by rw [hd]; exact h)
  have hM := ptM_bd st
  have hfo : ∀ x ∈ ptF st, x.ok = true := rdFv_ok true _ _ _ f8z_ok
  have hfit : fits (ptM st) (ptF st) = true := by
    refine fits_yes fun k hk => ?_
    unfold fitAt
    rw [hfo _ (List.getElem_mem _), Bool.true_and]
    by_cases hkb : k ∈ bitsTo (ptM st) 8
    · rw [(bitsTo_mem.1 hkb).2, Bool.or_true]
    · have h1 : at8 (ptF st) k = vz := by unfold ptF; rw [rdFv_far true _ _ _ k hb hkb, at8_f8z]
      rw [at8_eq hk] at h1
      rw [h1]; rfl
  cases hb8 : (ptM st).testBit 8
  · obtain ⟨b1, b2⟩ := ptB_no hb8
    rw [b1] at e4
    obtain ⟨e0, s0, l0, m0⟩ := rdAb_took (st := st) (most := 511) e4
    have hc : (ptPatch st).code = 0 := by
      rw [Patch.code_f (p := ptPatch st) (show ptM st ≠ 0 by omega) (show ptM st ≤ 511 by omega) (show ptL st < 65536 by rw [b2]; omega) (Or.inl b2)]
      show (if fits (ptM st) (ptF st) = true then (0 : Int) else 1) = 0
      rw [if_pos hfit]
    refine ⟨e0, by rw [hr]; exact hc, ?_⟩
    rw [hr, patchB_no hc hb8, hd]
    show st.s = num (ptM st : Int) ++ bodyF (ptF st) (bitsTo (ptM st) 8) ++ _
    rw [hM.1, s0]
    show _ ++ (ptA st).s = _
    rw [← b1, s4]
    show _ ++ (bodyF (ptF st) _ ++ _) = _
    simp
  · obtain ⟨b1, b2⟩ := ptB_yes hb8
    rw [b1] at e4
    obtain ⟨e1, s1, l1, m1⟩ := rdN_took2 (st := ptA st) (most := 65535) e4
    obtain ⟨e0, s0, l0, m0⟩ := rdAb_took (st := st) (most := 511) e1
    have hL : (ptL st : Int) = rdN (ptA st) 65535 := by rw [b2]; omega
    have hc : (ptPatch st).code = 0 := by
      rw [Patch.code_f (p := ptPatch st) (show ptM st ≠ 0 by omega) (show ptM st ≤ 511 by omega) (show ptL st < 65536 by omega) (Or.inr hb8)]
      show (if fits (ptM st) (ptF st) = true then (0 : Int) else 1) = 0
      rw [if_pos hfit]
    refine ⟨e0, by rw [hr]; exact hc, ?_⟩
    rw [hr, patchB_lab hc hb8, hd]
    show st.s = num (ptM st : Int) ++ num (ptL st : Int) ++ bodyF (ptF st) (bitsTo (ptM st) 8) ++ _
    rw [hM.1, hL, s0]
    show _ ++ (ptA st).s = _
    rw [s1, ← b1, s4]
    show _ ++ (_ ++ (bodyF (ptF st) _ ++ _)) = _
    simp
/-! Edits. -/
abbrev ez : Edit := ⟨0, 0, 0, pz⟩
def edK (st : Rd) : Int := rdN st 7
def edA (st : Rd) : Rd := rdAb' st 7
def edG (st : Rd) : Int := if hasG (edK st) then rdN (edA st) 15 else 0
def edB (st : Rd) : Rd := if hasG (edK st) then rdN' (edA st) 15 else edA st
def edI (st : Rd) : Int := if hasI (edK st) then rdN (edB st) 1073741823 else 0
def edC (st : Rd) : Rd := if hasI (edK st) then rdAb' (edB st) 1073741823 else edB st
def edP (st : Rd) : Patch := if hasP (edK st) then rdPatch (edC st) else pz
@[irreducible] def rdEdit' (st : Rd) : Rd := if hasP (edK st) then (if (rdPatch (edC st)).code = 0 then rdPatch' (edC st) else rdF (rdPatch' (edC st)) 3) else edC st
def edEdit (st : Rd) : Edit := ⟨edK st, edI st, edG st, edP st⟩
@[irreducible] def rdEdit (st : Rd) : Edit := if (rdEdit' st).e = 0 then edEdit st else ez
theorem rdEdit'_def (st : Rd) : rdEdit' st = if hasP (edK st) then (if (rdPatch (edC st)).code = 0 then rdPatch' (edC st) else rdF (rdPatch' (edC st)) 3) else edC st := by unfold rdEdit'; rfl
theorem rdEdit_ok {st : Rd} (h : (rdEdit' st).e = 0) : rdEdit st = edEdit st := by unfold rdEdit; rw [if_pos h]
theorem rdEdit_bad {st : Rd} (h : (rdEdit' st).e ≠ 0) : rdEdit st = ez := by unfold rdEdit; rw [if_neg h]
theorem rdPatch_err {st : Rd} (h : st.e ≠ 0) : rdPatch st = pz ∧ rdPatch' st = st := by
  have h0 : ptM st = 0 := by unfold ptM; rw [(rdN_err h).1]; rfl
  have h1 : ptA st = st := rdAb'_bad h
  have h2 : rdPatch' st = st := by rw [rdPatch'_def, (ptB_no (by rw [h0]; rfl)).1, h1, rdFs'_bad h]
  exact ⟨rdPatch_bad (by rw [h2]; exact h), h2⟩
theorem pz_code : pz.code = 11 := Patch.code_mask (.inl rfl)
/-- The patch that was taken may be, unless something was wrong. -/
theorem rdEdit'_eq (st : Rd) : rdEdit' st = if hasP (edK st) then rdPatch' (edC st) else edC st := by
  rw [rdEdit'_def]
  split
  · by_cases h : (rdPatch' (edC st)).e = 0
    · rw [if_pos (rdPatch_took h).2.1]
    · rw [if_neg (by rw [rdPatch_bad h, pz_code]; decide), rdF_err h]
  · rfl
theorem edP_len (st : Rd) : (edP st).f.length = 8 := by
  unfold edP; split
  · exact rdPatch_len _
  · rfl
theorem rdEdit_len (st : Rd) : (rdEdit st).p.f.length = 8 := by
  unfold rdEdit; split
  · exact edP_len st
  · rfl
theorem rdEdit'_len (st : Rd) : (rdEdit' st).s.length ≤ st.s.length := by
  have h1 : (edA st).s.length ≤ st.s.length := rdAb'_len st 7
  have h2 := rdN'_len (edA st) 15
  have h3 : (edB st).s.length ≤ (edA st).s.length := by unfold edB; split <;> omega
  have h4 := rdAb'_len (edB st) 1073741823
  have h5 : (edC st).s.length ≤ (edB st).s.length := by unfold edC; split <;> omega
  have h6 := rdPatch'_len (edC st)
  rw [rdEdit'_eq]; split <;> omega
end Go.Proofs.YtjhndilflcigiaaDoor
namespace Go.Proofs.YtjhndilflcigiaaDoor
open Go.RowKit

theorem gOk_iff {e : Edit} (h : e.gOk = true) : 0 ≤ e.group ∧ e.group < 16 ∧ (hasG e.kind = false → e.group = 0) := by
  unfold Edit.gOk at h
  simp only [Bool.and_eq_true, Bool.or_eq_true, decide_eq_true_eq] at h
  exact ⟨h.1.1, h.1.2, fun hg => h.2.resolve_left (by simp [hg])⟩
theorem iOk_iff {e : Edit} (h : e.iOk = true) : (hasI e.kind = true → 1 ≤ e.id ∧ e.id < 1073741824) ∧ (hasI e.kind = false → e.id = 0) := by
  unfold Edit.iOk at h
  cases hi : hasI e.kind
  · rw [hi] at h
    exact ⟨fun h' => (by cases h'), fun _ => by simpa using h⟩
  · rw [hi] at h
    exact ⟨fun _ => by simpa using h, fun h' => by cases h'⟩
theorem editB_ok {e : Edit} (h : e.code = 0) : editB e = num e.kind ++ (if hasG e.kind then num e.group else []) ++ (if hasI e.kind then num e.id else []) ++ (if hasP e.kind then patchB e.p else []) := by unfold editB; rw [if_pos h]
theorem editB_bad {e : Edit} (h : e.code ≠ 0) : editB e = [] := by unfold editB; rw [if_neg h]
/-- An edit that may be is read of its bytes. -/
theorem rdEdit_put {e : Edit} (h : e.code = 0) (hf : e.p.f.length = 8) (r : List UInt8) : rdEdit ⟨editB e ++ r, 0⟩ = e ∧ rdEdit' ⟨editB e ++ r, 0⟩ = ⟨r, 0⟩ := by
  obtain ⟨h1, h7, hg, hi, hp, hz⟩ := Edit.code_zero h
  obtain ⟨g0, g1, g2⟩ := gOk_iff hg
  obtain ⟨i1, i2⟩ := iOk_iff hi
  obtain ⟨xp, hxp⟩ : ∃ x, x = (if hasP e.kind then patchB e.p else []) ++ r := ⟨_, rfl⟩
  obtain ⟨xi, hxi⟩ : ∃ x, x = (if hasI e.kind then num e.id else []) ++ xp := ⟨_, rfl⟩
  obtain ⟨xg, hxg⟩ : ∃ x, x = (if hasG e.kind then num e.group else []) ++ xi := ⟨_, rfl⟩
  have e0 : editB e ++ r = num e.kind ++ xg := by rw [editB_ok h, hxg, hxi, hxp]; simp
  rw [e0]
  obtain ⟨p1, q1⟩ := rdAb_num (n := e.kind) (most := 7) xg (by omega) (by omega) (by omega)
  have hK : edK ⟨num e.kind ++ xg, 0⟩ = e.kind := p1
  have hA : edA ⟨num e.kind ++ xg, 0⟩ = ⟨xg, 0⟩ := q1
  have hB : edB ⟨num e.kind ++ xg, 0⟩ = ⟨xi, 0⟩ ∧ edG ⟨num e.kind ++ xg, 0⟩ = e.group := by
    unfold edB edG
    rw [hK, hA, hxg]
    cases hh : hasG e.kind
    · exact ⟨by rw [if_neg (by decide)]; rfl, by rw [if_neg (by decide), g2 hh]⟩
    · obtain ⟨p2, q2⟩ := rdN_num (n := e.group) (most := 15) xi (by omega) (by omega) (by omega)
      exact ⟨by rw [if_pos rfl, if_pos rfl, q2], by rw [if_pos rfl, if_pos rfl, p2]⟩
  have hC : edC ⟨num e.kind ++ xg, 0⟩ = ⟨xp, 0⟩ ∧ edI ⟨num e.kind ++ xg, 0⟩ = e.id := by
    unfold edC edI
    rw [hK, hB.1, hxi]
    cases hh : hasI e.kind
    · exact ⟨by rw [if_neg (by decide)]; rfl, by rw [if_neg (by decide), i2 hh]⟩
    · obtain ⟨k1, k2⟩ := i1 hh
      obtain ⟨p2, q2⟩ := rdAb_num (n := e.id) (most := 1073741823) xp (by omega) (by omega) (by omega)
      exact ⟨by rw [if_pos rfl, if_pos rfl, q2], by rw [if_pos rfl, if_pos rfl, p2]⟩
  have hD : rdEdit' ⟨num e.kind ++ xg, 0⟩ = ⟨r, 0⟩ ∧ edP ⟨num e.kind ++ xg, 0⟩ = e.p := by
    unfold edP
    rw [rdEdit'_eq, hK, hC.1, hxp]
    cases hh : hasP e.kind
    · exact ⟨by rw [if_neg (by decide)]; rfl, by rw [if_neg (by decide), hz hh]⟩
    · obtain ⟨p2, q2⟩ := rdPatch_put (hp hh) hf r
      exact ⟨by rw [if_pos rfl, if_pos rfl, q2], by rw [if_pos rfl, if_pos rfl, p2]⟩
  refine ⟨?_, hD.1⟩
  rw [rdEdit_ok (by rw [hD.1])]
  unfold edEdit
  rw [hK, hB.2, hC.2, hD.2]
theorem edC_took {st : Rd} (h : (edC st).e = 0) : (edB st).e = 0 ∧ (edB st).s = (if hasI (edK st) then num (edI st) else []) ++ (edC st).s ∧ (hasI (edK st) = true → 1 ≤ edI st ∧ edI st < 1073741824) ∧ (hasI (edK st) = false → edI st = 0) := by
  unfold edC at h ⊢
  unfold edI
  cases hh : hasI (edK st)
  · rw [hh, if_neg (by decide)] at h
    rw [if_neg (by decide), if_neg (by decide), if_neg (by decide)]
    exact ⟨h, rfl, fun h => (by cases h), fun _ => rfl⟩
  · rw [hh, if_pos rfl] at h
    obtain ⟨a, b, c, d⟩ := rdAb_took h
    rw [if_pos rfl, if_pos rfl, if_pos rfl]
    exact ⟨a, b, fun _ => ⟨c, by omega⟩, fun h => (by cases h)⟩
theorem edB_took {st : Rd} (h : (edB st).e = 0) : (edA st).e = 0 ∧ (edA st).s = (if hasG (edK st) then num (edG st) else []) ++ (edB st).s ∧ (0 ≤ edG st ∧ edG st < 16) ∧ (hasG (edK st) = false → edG st = 0) := by
  unfold edB at h ⊢
  unfold edG
  cases hh : hasG (edK st)
  · rw [hh, if_neg (by decide)] at h
    rw [if_neg (by decide), if_neg (by decide), if_neg (by decide)]
    exact ⟨h, rfl, by omega, fun _ => rfl⟩
  · rw [hh, if_pos rfl] at h
    obtain ⟨a, b, c, d⟩ := rdN_took2 h
    rw [if_pos rfl, if_pos rfl, if_pos rfl]
    exact ⟨a, b, by omega, fun h => (by cases h)⟩
theorem edD_took {st : Rd} (h : (rdEdit' st).e = 0) : (edC st).e = 0 ∧ (edC st).s = (if hasP (edK st) then patchB (edP st) else []) ++ (rdEdit' st).s ∧ (hasP (edK st) = true → (edP st).code = 0) ∧ (hasP (edK st) = false → edP st = pz) := by
  rw [rdEdit'_eq] at h ⊢
  unfold edP
  cases hh : hasP (edK st)
  · rw [hh, if_neg (by decide)] at h
    rw [if_neg (by decide), if_neg (by decide), if_neg (by decide)]
    exact ⟨h, rfl, fun h => (by cases h), fun _ => rfl⟩
  · rw [hh, if_pos rfl] at h
    obtain ⟨a, b, c⟩ := rdPatch_took h
    rw [if_pos rfl, if_pos rfl, if_pos rfl]
    exact ⟨a, c, fun _ => b, fun h => (by cases h)⟩
/-- What was taken for an edit is its bytes, and it may be. -/
theorem rdEdit_took {st : Rd} (h : (rdEdit' st).e = 0) : st.e = 0 ∧ (rdEdit st).code = 0 ∧ st.s = editB (rdEdit st) ++ (rdEdit' st).s := by
  obtain ⟨e3, s3, p1, p2⟩ := edD_took h
  obtain ⟨e2, s2, i1, i2⟩ := edC_took e3
  obtain ⟨e1, s1, g1, g2⟩ := edB_took e2
  obtain ⟨e0, s0, l0, m0⟩ := rdAb_took (st := st) (most := 7) e1
  have hr := rdEdit_ok h
  have hc : (edEdit st).code = 0 := by
    have hG : (edEdit st).gOk = true := by
      unfold Edit.gOk edEdit
      simp only [Bool.and_eq_true, Bool.or_eq_true, decide_eq_true_eq]
      refine ⟨g1, ?_⟩
      cases hh : hasG (edK st)
      · exact .inr (g2 hh)
      · exact .inl rfl
    have hI : (edEdit st).iOk = true := by
      unfold Edit.iOk edEdit
      show (if hasI (edK st) = true then decide (1 ≤ edI st ∧ edI st < 1073741824) else decide (edI st = 0)) = true
      cases hh : hasI (edK st)
      · rw [if_neg (by decide), i2 hh]; rfl
      · rw [if_pos rfl]; exact decide_eq_true (i1 hh)
    rw [Edit.code_p (show 1 ≤ edK st from l0) (show edK st ≤ 7 from m0) hG hI]
    show (if hasP (edK st) = true then (edP st).code else if edP st = pz then 0 else 1) = 0
    cases hh : hasP (edK st)
    · rw [if_neg (by decide), if_pos (p2 hh)]
    · rw [if_pos rfl]; exact p1 hh
  refine ⟨e0, by rw [hr]; exact hc, ?_⟩
  rw [hr, editB_ok hc]
  show st.s = num (edK st) ++ (if hasG (edK st) = true then num (edG st) else []) ++ (if hasI (edK st) = true then num (edI st) else []) ++ (if hasP (edK st) = true then patchB (edP st) else []) ++ _
  rw [s0]
  show _ ++ (edA st).s = _
  rw [s1, s2, s3]
  simp
  rfl
end Go.Proofs.YtjhndilflcigiaaDoor
