/-
  Lemmas (walks and plain laws), in one text.
-/
import Derived.Test.YtjhndilflcigiaaDoorQb8
import Derived.Test.YtjhndilflcigiaaDoorRows
import Derived.WalkKit
import Derived.WalkSpells
import Derived.WalkLawsBesides
import Derived.Lib.Hide
import Derived.Deep.QuietTactic
import Derived.BigQuiet
import Derived.Maps.AppendAt
import Derived.WalkSmall
import Derived.ProofKit
import Derived.OpenShut
import Derived.JoinedCond
import Derived.Deep.Slices
import Derived.Deep.Fields
import Derived.Carry
import Derived.Deep.AppendSrc
import Derived.Lib.AppendStr
import Derived.Laws.BytesArg
import Derived.Test.YtjhndilflcigiaaDoorProg
import Derived.Shelf.Spec.TrailingZeros
import Derived.RangeFuncNested
import Derived.RangeFuncBound
import Derived.RangeFuncCalls
import Derived.RangeFuncLeaves
import Derived.Shelf.Abstract
import Derived.Shelf.RegionOpen
import Derived.OwnWalkIn
import Derived.TacticsInMore
import Derived.LoopNIn
import Derived.LoopIn
import Derived.Test.YtjhndilflcigiaaDoorTie
import Derived.Lib.LaidTab
import Derived.LaidMore
import Derived.SevenTiedAt
import Derived.Test.YtjhndilflcigiaaDoorCards
import Derived.Laws.Tables
import Derived.Laws.Rows
import Derived.Maps.Own
import Derived.Deep.CutBlock
import Derived.Deep.DeepCutAuto
import Derived.ChangeKeysEq
import Derived.Laws.StructEq
import Derived.Laws.CopyOwn
import Derived.Outline
import Derived.IntWalk
import Derived.Lib.EndianBits
import Derived.Lib.AppendZeros
import Derived.WalkMore
import Derived.StillTail
import Derived.Deep.Quiet
namespace Go.Proofs.YtjhndilflcigiaaDoor
open Go.RowKit

/-! The values of fields. -/
def fldS (b : Bool) (st : Rd) : Rd := if b = false ∧ (rdVal st).kind = 0 then rdF (rdVal' st) 3 else rdVal' st
theorem fldS_true (st : Rd) : fldS true st = rdVal' st := by unfold fldS; rw [if_neg (by simp)]
theorem fldS_zero {st : Rd} (h : (rdVal st).kind = 0) : fldS false st = rdF (rdVal' st) 3 := by unfold fldS; rw [if_pos ⟨rfl, h⟩]
theorem fldS_pos {b : Bool} {st : Rd} (h : (rdVal st).kind ≠ 0) : fldS b st = rdVal' st := by unfold fldS; rw [if_neg (fun k => h k.2)]
theorem fldS_bad {b : Bool} {st : Rd} (h : st.e ≠ 0) : fldS b st = st := by
  unfold fldS
  rw [(rdVal_err h).2]
  split
  · exact rdF_err h
  · rfl
theorem fldS_ok {b : Bool} {st : Rd} (h : (fldS b st).e = 0) : fldS b st = rdVal' st ∧ (rdVal' st).e = 0 ∧ (b = false → (rdVal st).kind ≠ 0) := by
  unfold fldS at h ⊢
  by_cases hc : b = false ∧ (rdVal st).kind = 0
  · rw [if_pos hc] at h
    exact absurd h (rdF_bad _ (by decide))
  · rw [if_neg hc] at h ⊢
    exact ⟨rfl, h, fun hb hk => hc ⟨hb, hk⟩⟩
def rdFs' (b : Bool) : List Nat → Rd → Rd
  | [], st => st
  | _ :: l, st => rdFs' b l (fldS b st)
def rdFv (b : Bool) : List Nat → Rd → List Val → List Val
  | [], _, f => f
  | k :: l, st, f => rdFv b l (fldS b st) (f.set k (rdVal st))
theorem rdFs'_bad {b : Bool} {st : Rd} (h : st.e ≠ 0) : ∀ l, rdFs' b l st = st
  | [] => rfl
  | _ :: l => by rw [rdFs', fldS_bad h]; exact rdFs'_bad h l
theorem rdFv_len (b : Bool) : ∀ l st f, (rdFv b l st f).length = f.length
  | [], _, _ => rfl
  | k :: l, st, f => by rw [rdFv, rdFv_len b l]; simp
theorem rdFv_ok (b : Bool) : ∀ l st f, (∀ x ∈ f, x.ok = true) → ∀ x ∈ rdFv b l st f, x.ok = true
  | [], _, _, h => h
  | k :: l, st, f, h => by
    refine rdFv_ok b l _ _ fun x hx => ?_
    rcases List.mem_or_eq_of_mem_set hx with h' | rfl
    · exact h x h'
    · exact rdVal_ok st
theorem at8_set {f : List Val} {k : Nat} (h : k < f.length) (x : Val) (j : Nat) : at8 (f.set k x) j = if j = k then x else at8 f j := by
  unfold at8
  rw [List.getD_eq_getElem?_getD, List.getD_eq_getElem?_getD, List.getElem?_set]
  by_cases hj : j = k
  · subst hj; simp [h]
  · rw [if_neg (fun e => hj e.symm), if_neg hj]
theorem at8_f8z (k : Nat) : at8 f8z k = vz := by
  unfold at8
  rw [List.getD_eq_getElem?_getD, List.getElem?_replicate]
  split <;> rfl
theorem rdFv_far (b : Bool) : ∀ l st f k, (∀ j ∈ l, j < f.length) → k ∉ l → at8 (rdFv b l st f) k = at8 f k
  | [], _, _, _, _, _ => rfl
  | j :: l, st, f, k, hl, hk => by
    rw [rdFv, rdFv_far b l _ _ k (fun i hi => by rw [List.length_set]; exact hl i (List.mem_cons_of_mem _ hi)) (fun h => hk (List.mem_cons_of_mem _ h)), at8_set (hl j (List.mem_cons_self ..))]
    rw [if_neg (fun e => hk (by rw [e]; exact List.mem_cons_self ..))]
/-- What was taken for fields is their bytes. -/
theorem rdFs_took (b : Bool) : ∀ l st g, (rdFs' b l st).e = 0 → l.Nodup → (∀ k ∈ l, k < g.length) →
    st.e = 0 ∧ st.s = bodyF (rdFv b l st g) l ++ (rdFs' b l st).s ∧ (b = false → ∀ k ∈ l, (at8 (rdFv b l st g) k).kind ≠ 0)
  | [], st, g, h, _, _ => ⟨h, rfl, fun _ _ hk => by cases hk⟩
  | k :: l, st, g, h, hn, hg => by
    obtain ⟨n1, n2⟩ := List.nodup_cons.1 hn
    rw [rdFs'] at h
    have hg' : ∀ j ∈ l, j < (g.set k (rdVal st)).length := fun j hj => by rw [List.length_set]; exact hg j (List.mem_cons_of_mem _ hj)
    obtain ⟨i1, i2, i3⟩ := rdFs_took b l (fldS b st) (g.set k (rdVal st)) h n2 hg'
    obtain ⟨s1, s2, s3⟩ := fldS_ok i1
    obtain ⟨t1, t2, t3⟩ := rdVal_took s2
    have hv : at8 (rdFv b (k :: l) st g) k = rdVal st := by rw [rdFv, rdFv_far b l _ _ k hg' n1, at8_set (hg k (List.mem_cons_self ..)), if_pos rfl]
    refine ⟨t1, ?_, fun hb j hj => ?_⟩
    · rw [t3]
      show _ = (valB (at8 (rdFv b (k :: l) st g) k) ++ bodyF (rdFv b (k :: l) st g) l) ++ _
      rw [hv, List.append_assoc, rdFs', rdFv]
      congr 1
      rw [← s1]; exact i2
    · rcases List.mem_cons.1 hj with rfl | hj
      · rw [hv]; exact s3 hb
      · rw [rdFv]; exact i3 hb j hj
/-! The fields of a mask, from one on. -/
def bitsFrom (m k : Nat) : List Nat := (List.range' k (8 - k)).filter m.testBit
theorem bitsFrom_yes {m k : Nat} (hk : k < 8) (h : m.testBit k = true) : bitsFrom m k = k :: bitsFrom m (k + 1) := by
  unfold bitsFrom
  rw [show 8 - k = (8 - (k + 1)) + 1 by omega, List.range'_succ, List.filter_cons_of_pos h]
theorem bitsFrom_no {m k : Nat} (hk : k < 8) (h : m.testBit k = false) : bitsFrom m k = bitsFrom m (k + 1) := by
  unfold bitsFrom
  rw [show 8 - k = (8 - (k + 1)) + 1 by omega, List.range'_succ, List.filter_cons_of_neg (by simp [h])]
theorem bitsFrom_zero (m : Nat) : bitsFrom m 0 = bitsTo m 8 := by unfold bitsFrom bitsTo; rw [List.range_eq_range']
theorem bitsTo_nodup (m k : Nat) : (bitsTo m k).Nodup := List.Pairwise.filter _ List.nodup_range
theorem bitsTo_mem {m k j : Nat} : j ∈ bitsTo m k ↔ j < k ∧ m.testBit j = true := by unfold bitsTo; rw [List.mem_filter, List.mem_range]
/-! Cards. -/
def cdA (st : Rd) : Rd := rdAb' st 1073741823
def cdB (st : Rd) : Rd := rdAb' (cdA st) 1099511627776
def cdC (st : Rd) : Rd := rdN' (cdB st) 65535
def cdD (st : Rd) : Rd := rdN' (cdC st) 255
def cdM (st : Rd) : Nat := (rdN (cdC st) 255).toNat
def cdF (st : Rd) : List Val := rdFv false (bitsTo (cdM st) 8) (cdD st) f8z
@[irreducible] def rdCard' (st : Rd) : Rd := rdFs' false (bitsTo (cdM st) 8) (cdD st)
def cdCard (st : Rd) : Card := ⟨rdN st 1073741823, rdN (cdA st) 1099511627776, (rdN (cdB st) 65535).toNat, cdF st⟩
@[irreducible] def rdCard (st : Rd) : Card := if (rdCard' st).e = 0 then cdCard st else cz
theorem f8z_ok : ∀ x ∈ f8z, x.ok = true := fun x hx => by rw [List.eq_of_mem_replicate hx]; decide
end Go.Proofs.YtjhndilflcigiaaDoor
namespace Go.Proofs.YtjhndilflcigiaaDoor
open Go.RowKit

/-! Patches. -/
def ptM (st : Rd) : Nat := (rdN st 511).toNat
def ptA (st : Rd) : Rd := rdAb' st 511
def ptL (st : Rd) : Nat := if (ptM st).testBit 8 then (rdN (ptA st) 65535).toNat else 0
def ptB (st : Rd) : Rd := if (ptM st).testBit 8 then rdN' (ptA st) 65535 else ptA st
def ptF (st : Rd) : List Val := rdFv true (bitsTo (ptM st) 8) (ptB st) f8z
@[irreducible] def rdPatch' (st : Rd) : Rd := rdFs' true (bitsTo (ptM st) 8) (ptB st)
def ptPatch (st : Rd) : Patch := ⟨ptM st, ptL st, ptF st⟩
@[irreducible] def rdPatch (st : Rd) : Patch := if (rdPatch' st).e = 0 then ptPatch st else pz
theorem rdPatch'_def (st : Rd) : rdPatch' st = rdFs' true (bitsTo (ptM st) 8) (ptB st) := by unfold rdPatch'; rfl
theorem rdPatch_ok {st : Rd} (h : (rdPatch' st).e = 0) : rdPatch st = ptPatch st := by unfold rdPatch; rw [if_pos h]
theorem rdPatch_bad {st : Rd} (h : (rdPatch' st).e ≠ 0) : rdPatch st = pz := by unfold rdPatch; rw [if_neg h]
theorem ptF_len (st : Rd) : (ptF st).length = 8 := by unfold ptF; rw [rdFv_len]; rfl
theorem rdPatch_len (st : Rd) : (rdPatch st).f.length = 8 := by
  unfold rdPatch; split
  · exact ptF_len st
  · rfl
theorem ptM_bd (st : Rd) : (ptM st : Int) = rdN st 511 ∧ ptM st ≤ 511 := by
  have := rdN_bd st 511
  unfold ptM
  omega
theorem ptL_bd (st : Rd) : ptL st ≤ 65535 := by
  have := rdN_bd (ptA st) 65535
  unfold ptL
  split <;> omega
theorem rdPatch_mask (st : Rd) : (rdPatch st).mask ≤ 511 ∧ (rdPatch st).lab ≤ 65535 := by
  unfold rdPatch; split
  · exact ⟨(ptM_bd st).2, ptL_bd st⟩
  · exact ⟨by show 0 ≤ 511; omega, by show 0 ≤ 65535; omega⟩
theorem rdPatch_vals (st : Rd) : ∀ x ∈ (rdPatch st).f, x.ok = true := by
  unfold rdPatch; split
  · exact rdFv_ok true _ _ _ f8z_ok
  · exact f8z_ok
theorem rdPatch_sizes (st : Rd) : ∀ x ∈ (rdPatch st).f, x.s.length ≤ 4294967000 := fun x hx => by have := Val.ok_len (rdPatch_vals st x hx); omega
theorem ptB_yes {st : Rd} (h : (ptM st).testBit 8 = true) : ptB st = rdN' (ptA st) 65535 ∧ ptL st = (rdN (ptA st) 65535).toNat := by unfold ptB ptL; rw [if_pos h, if_pos h]; exact ⟨rfl, rfl⟩
theorem ptB_no {st : Rd} (h : (ptM st).testBit 8 = false) : ptB st = ptA st ∧ ptL st = 0 := by unfold ptB ptL; rw [if_neg (by simp [h]), if_neg (by simp [h])]; exact ⟨rfl, rfl⟩
/-- What was taken for a patch is its bytes, and it may be if its mask's fields may be. -/
theorem rdPatch_took {st : Rd} (h : (rdPatch' st).e = 0) : st.e = 0 ∧ (rdPatch st).code = 0 ∧ st.s = patchB (rdPatch st) ++ (rdPatch' st).s := by
  have hd := rdPatch'_def st
  rw [hd] at h
  have hb : ∀ k ∈ bitsTo (ptM st) 8, k < f8z.length := fun k hk => bitsTo_bd hk
  obtain ⟨e4, s4, -⟩ := rdFs_took true (bitsTo (ptM st) 8) (ptB st) f8z h (bitsTo_nodup _ _) hb
  have hr : rdPatch st = ptPatch st := rdPatch_ok (by rw [hd]; exact h)
  have hM := ptM_bd st
  have hfo : ∀ x ∈ ptF st, x.ok = true := rdFv_ok true _ _ _ f8z_ok
  have hfit : fits (ptM st) (ptF st) = true := by
    refine fits_yes fun k hk => ?_
    unfold fitAt
    rw [hfo _ (List.getElem_mem _), Bool.true_and]
    by_cases hkb : k ∈ bitsTo (ptM st) 8
    · rw [(bitsTo_mem.1 hkb).2, Bool.or_true]
    · have h1 : at8 (ptF st) k = vz := by unfold ptF; rw [rdFv_far true _ _ _ k hb hkb, at8_f8z]
      rw [at8_eq hk] at h1
      rw [h1]; rfl
  cases hb8 : (ptM st).testBit 8
  · obtain ⟨b1, b2⟩ := ptB_no hb8
    rw [b1] at e4
    obtain ⟨e0, s0, l0, m0⟩ := rdAb_took (st := st) (most := 511) e4
    have hc : (ptPatch st).code = 0 := by
      rw [Patch.code_f (p := ptPatch st) (show ptM st ≠ 0 by omega) (show ptM st ≤ 511 by omega) (show ptL st < 65536 by rw [b2]; omega) (Or.inl b2)]
      show (if fits (ptM st) (ptF st) = true then (0 : Int) else 1) = 0
      rw [if_pos hfit]
    refine ⟨e0, by rw [hr]; exact hc, ?_⟩
    rw [hr, patchB_no hc hb8, hd]
    show st.s = num (ptM st : Int) ++ bodyF (ptF st) (bitsTo (ptM st) 8) ++ _
    rw [hM.1, s0]
    show _ ++ (ptA st).s = _
    rw [← b1, s4]
    show _ ++ (bodyF (ptF st) _ ++ _) = _
    simp
  · obtain ⟨b1, b2⟩ := ptB_yes hb8
    rw [b1] at e4
    obtain ⟨e1, s1, l1, m1⟩ := rdN_took2 (st := ptA st) (most := 65535) e4
    obtain ⟨e0, s0, l0, m0⟩ := rdAb_took (st := st) (most := 511) e1
    have hL : (ptL st : Int) = rdN (ptA st) 65535 := by rw [b2]; omega
    have hc : (ptPatch st).code = 0 := by
      rw [Patch.code_f (p := ptPatch st) (show ptM st ≠ 0 by omega) (show ptM st ≤ 511 by omega) (show ptL st < 65536 by omega) (Or.inr hb8)]
      show (if fits (ptM st) (ptF st) = true then (0 : Int) else 1) = 0
      rw [if_pos hfit]
    refine ⟨e0, by rw [hr]; exact hc, ?_⟩
    rw [hr, patchB_lab hc hb8, hd]
    show st.s = num (ptM st : Int) ++ num (ptL st : Int) ++ bodyF (ptF st) (bitsTo (ptM st) 8) ++ _
    rw [hM.1, hL, s0]
    show _ ++ (ptA st).s = _
    rw [s1, ← b1, s4]
    show _ ++ (_ ++ (bodyF (ptF st) _ ++ _)) = _
    simp
/-! Edits. -/
abbrev ez : Edit := ⟨0, 0, 0, pz⟩
def edK (st : Rd) : Int := rdN st 7
def edA (st : Rd) : Rd := rdAb' st 7
def edG (st : Rd) : Int := if hasG (edK st) then rdN (edA st) 15 else 0
def edB (st : Rd) : Rd := if hasG (edK st) then rdN' (edA st) 15 else edA st
def edI (st : Rd) : Int := if hasI (edK st) then rdN (edB st) 1073741823 else 0
def edC (st : Rd) : Rd := if hasI (edK st) then rdAb' (edB st) 1073741823 else edB st
def edP (st : Rd) : Patch := if hasP (edK st) then rdPatch (edC st) else pz
@[irreducible] def rdEdit' (st : Rd) : Rd := if hasP (edK st) then (if (rdPatch (edC st)).code = 0 then rdPatch' (edC st) else rdF (rdPatch' (edC st)) 3) else edC st
def edEdit (st : Rd) : Edit := ⟨edK st, edI st, edG st, edP st⟩
@[irreducible] def rdEdit (st : Rd) : Edit := if (rdEdit' st).e = 0 then edEdit st else ez
theorem rdEdit'_def (st : Rd) : rdEdit' st = if hasP (edK st) then (if (rdPatch (edC st)).code = 0 then rdPatch' (edC st) else rdF (rdPatch' (edC st)) 3) else edC st := by unfold rdEdit'; rfl
theorem rdEdit_ok {st : Rd} (h : (rdEdit' st).e = 0) : rdEdit st = edEdit st := by unfold rdEdit; rw [if_pos h]
theorem rdEdit_bad {st : Rd} (h : (rdEdit' st).e ≠ 0) : rdEdit st = ez := by unfold rdEdit; rw [if_neg h]
theorem rdPatch_err {st : Rd} (h : st.e ≠ 0) : rdPatch st = pz ∧ rdPatch' st = st := by
  have h0 : ptM st = 0 := by unfold ptM; rw [(rdN_err h).1]; rfl
  have h1 : ptA st = st := rdAb'_bad h
  have h2 : rdPatch' st = st := by rw [rdPatch'_def, (ptB_no (by rw [h0]; rfl)).1, h1, rdFs'_bad h]
  exact ⟨rdPatch_bad (by rw [h2]; exact h), h2⟩
theorem pz_code : pz.code = 11 := Patch.code_mask (.inl rfl)
/-- The patch that was taken may be, unless something was wrong. -/
theorem rdEdit'_eq (st : Rd) : rdEdit' st = if hasP (edK st) then rdPatch' (edC st) else edC st := by
  rw [rdEdit'_def]
  split
  · by_cases h : (rdPatch' (edC st)).e = 0
    · rw [if_pos (rdPatch_took h).2.1]
    · rw [if_neg (by rw [rdPatch_bad h, pz_code]; decide), rdF_err h]
  · rfl
theorem edP_len (st : Rd) : (edP st).f.length = 8 := by
  unfold edP; split
  · exact rdPatch_len _
  · rfl
theorem rdEdit_len (st : Rd) : (rdEdit st).p.f.length = 8 := by
  unfold rdEdit; split
  · exact edP_len st
  · rfl
end Go.Proofs.YtjhndilflcigiaaDoor
namespace Go.Proofs.YtjhndilflcigiaaDoor
open Go.RowKit

theorem editB_ok {e : Edit} (h : e.code = 0) : editB e = num e.kind ++ (if hasG e.kind then num e.group else []) ++ (if hasI e.kind then num e.id else []) ++ (if hasP e.kind then patchB e.p else []) := by unfold editB; rw [if_pos h]
theorem editB_bad {e : Edit} (h : e.code ≠ 0) : editB e = [] := by unfold editB; rw [if_neg h]
end Go.Proofs.YtjhndilflcigiaaDoor
namespace Go.Proofs.YtjhndilflcigiaaDoor
open Go.RowKit

set_option maxHeartbeats 400000 in
theorem c_pred_Parts (op : Int) (w : World) : Calls Tryd.prog 175 #[.int .i64 op] w (RetV w (.int .i64 (parts op))) := by
  go_enter Tryd.func175, Tryd.ntmps175
  go_wp2
  all_goals (go_ret; refine RetV.int ?_ (by repeat (first | exact Below.refl _ _ | refine Below.drew ?_ | refine Below.alloc ?_ (by first | omega | (simp; done) | (simp; omega)) _ | refine Below.setCell ?_ (by first | omega | (simp; done) | (simp; omega)) _ | refine Below.trans ?_ (Below.mono (by assumption) (by first | omega | (simp; done) | (simp; omega))))); simp_all [parts])
set_option maxHeartbeats 400000 in
theorem c_ref10_Parts (op : Int) (w : World) : Calls Tryd.prog 173 #[.int .i64 op] w (RetV w (.int .i64 (parts op))) := by
  go_enter Tryd.func173, Tryd.ntmps173
  go_wp2
  all_goals (go_ret; refine RetV.int ?_ (by repeat (first | exact Below.refl _ _ | refine Below.drew ?_ | refine Below.alloc ?_ (by first | omega | (simp; done) | (simp; omega)) _ | refine Below.setCell ?_ (by first | omega | (simp; done) | (simp; omega)) _ | refine Below.trans ?_ (Below.mono (by assumption) (by first | omega | (simp; done) | (simp; omega))))); simp_all [parts])
/-- What the switch of pred.Node comes to. -/
def nodeClass (op below kinds : Int) : Prop :=
  ((op = 1 ∨ op = 2 ∨ op = 10 ∨ op = 11 ∨ op = 12) ∧ below = 1 ∧ kinds = 1) ∨ ((op = 3 ∨ op = 4) ∧ below = 16 ∧ kinds = 1) ∨ (op = 5 ∧ below = 8 ∧ kinds = 1) ∨
  ((op = 6 ∨ op = 7 ∨ op = 8) ∧ below = 8 ∧ kinds = 6) ∨ (op = 9 ∧ below = 8 ∧ kinds = 4)
def kindIn (kinds kind : Int) : Bool := if kinds = 1 then decide (kind = 0) else if kinds = 6 then decide (kind = 1) || decide (kind = 2) else decide (kind = 2)
theorem node_ok_of {x : Node} {b k : Int} (h : nodeClass x.op b k) : x.ok = (decide (0 ≤ x.n) && decide (x.n < b) && x.v.ok && kindIn k x.v.kind) := by
  have hn : ∀ y : Val, (y.ok && decide (y.kind = 0)) = y.none := fun y => by
    rcases Val.ok_cases y with ⟨h1, h2⟩ | ⟨h1, h2, h3⟩ | ⟨h1, h2, h3⟩ | ⟨h1, h2, h3⟩ <;> simp [*]
  have hm : ∀ y : Val, (y.ok && (decide (y.kind = 1) || decide (y.kind = 2))) = (y.ok && !y.none) := fun y => by
    rcases Val.ok_cases y with ⟨h1, h2⟩ | ⟨h1, h2, h3⟩ | ⟨h1, h2, h3⟩ | ⟨h1, h2, h3⟩ <;> simp [*]
  unfold Node.ok
  rcases h with ⟨h, rfl, rfl⟩ | ⟨h, rfl, rfl⟩ | ⟨h, rfl, rfl⟩ | ⟨h, rfl, rfl⟩ | ⟨h, rfl, rfl⟩
  · rw [if_pos h]
    simp only [kindIn, if_true, Bool.and_assoc, hn]
    by_cases h0 : x.n = 0
    · simp [h0]
    · by_cases h1 : 0 ≤ x.n
      · simp [h0, h1, show ¬ x.n < 1 by omega]
      · simp [h0, h1]
  · rw [if_neg (by omega), if_pos h]
    simp only [kindIn, if_true, Bool.and_assoc, hn]
  · rw [if_neg (by omega), if_neg (by omega), if_pos h]
    simp only [kindIn, if_true, Bool.and_assoc, hn]
  · rw [if_neg (by omega), if_neg (by omega), if_neg (by omega), if_pos h]
    simp only [kindIn, if_true, Bool.and_assoc, hm, show ¬ (6 : Int) = 1 by omega, if_false]
  · rw [if_neg (by omega), if_neg (by omega), if_neg (by omega), if_neg (by omega), if_pos h]
    simp only [kindIn, Bool.and_assoc, show ¬ (4 : Int) = 1 by omega, show ¬ (4 : Int) = 6 by omega, if_false]
set_option maxRecDepth 100000 in
set_option maxHeartbeats 1000000 in
theorem c_pred_Node (x : Node) (w : World) (hs : x.v.s.length ≤ 9223372036854775807) : Calls Tryd.prog 147 #[x.val] w (RetV w (.bool x.ok)) := by
  unfold Node.val
  go_enter Tryd.func147, Tryd.ntmps147
  go_upto_block 0 with (fail)
  go_cut [3, 4] from 5 to 24 (fun b k w1 => ∃ bl kn : Int, b = .int .i64 bl ∧ k = .int .i64 kn ∧ 1 ≤ bl ∧ bl ≤ 16 ∧ (kn = 1 ∨ kn = 6 ∨ kn = 4) ∧ Hid (nodeClass x.op bl kn) ∧
    w1 = w.alloc (.cells #[.int .i64 x.op, .int .i64 x.n, .int .i64 x.v.kind, .int .i64 x.v.n, .string (str x.v.s)] 132))
  case first =>
    go_wp2_with (fail)
    all_goals first
      | (go_meet
         case rel =>
           refine ⟨_, _, rfl, rfl, by omega, by omega, by omega, ?_, rfl⟩
           show nodeClass _ _ _
           unfold nodeClass
           simp_all)
      | (go_ret; refine RetV.bool ?_ (by repeat (first | exact Below.refl _ _ | refine Below.drew ?_ | refine Below.alloc ?_ (by first | omega | (simp; done) | (simp; omega)) _ | refine Below.setCell ?_ (by first | omega | (simp; done) | (simp; omega)) _ | refine Below.trans ?_ (Below.mono (by assumption) (by first | omega | (simp; done) | (simp; omega))))); simp_all [Node.ok])
  case rest =>
    obtain ⟨bl, kn, rfl, rfl, hbl, hbl2, hkn, hcls, rfl⟩ := hcut
    go_wp2_with (go_at_call 143; refine (c_value_Check x.v _ hs).mono ?_; rintro e w1 ⟨rfl, hb1⟩; have q1 := fun o => hb1.cell (p := ⟨w.heap.size, o, none⟩) (by simp); rcases Val.ok_cases x.v with ⟨hok, hno⟩ | ⟨hok, hno, hk⟩ | ⟨hok, hno, hk⟩ | ⟨hok, hno, hk⟩ <;> rcases hkn with h1 | h1 | h1)
    all_goals (go_ret; refine RetV.bool ?_ (by repeat (first | exact Below.refl _ _ | refine Below.drew ?_ | refine Below.alloc ?_ (by first | omega | (simp; done) | (simp; omega)) _ | refine Below.setCell ?_ (by first | omega | (simp; done) | (simp; omega)) _ | refine Below.trans ?_ (Below.mono (by assumption) (by first | omega | (simp; done) | (simp; omega))))); rw [node_ok_of hcls.out]; (try clear hb1 q1); (simp_all [kindIn] <;> first | omega | (intros; omega) | decide | grind))
set_option maxRecDepth 100000 in
set_option maxHeartbeats 1000000 in
theorem c_ref10_Node (x : Node) (w : World) (hs : x.v.s.length ≤ 9223372036854775807) : Calls Tryd.prog 140 #[x.val] w (RetV w (.bool x.ok)) := by
  unfold Node.val
  go_enter Tryd.func140, Tryd.ntmps140
  go_upto_region 1 with (fail)
  go_cut [0, 3] from 5 to 84 (fun _ a w1 => a = .bool x.v.none ∧ w1 = w.alloc (.cells #[.int .i64 x.op, .int .i64 x.n, .int .i64 x.v.kind, .int .i64 x.v.n, .string (str x.v.s)] 132))
  case first =>
    go_wp2_with (fail)
    all_goals (go_meet; case rel => refine ⟨?_, ?_⟩ <;> simp_all [Val.none])
  case rest =>
    obtain ⟨rfl, rfl⟩ := hcut
    go_upto_region 2 with (fail)
    go_cut [4] from 5 to 84 (fun a w1 => a = .bool (decide (0 ≤ x.n) && decide (x.n < 8) && x.v.ok) ∧ Below w.heap.size w w1 ∧ w.heap.size < w1.heap.size ∧ w1.cell? ⟨w.heap.size, 0, none⟩ = some (.int .i64 x.op) ∧ w1.cell? ⟨w.heap.size, 1, none⟩ = some (.int .i64 x.n) ∧
      w1.cell? ⟨w.heap.size, 2, none⟩ = some (.int .i64 x.v.kind) ∧ w1.cell? ⟨w.heap.size, 3, none⟩ = some (.int .i64 x.v.n) ∧ w1.cell? ⟨w.heap.size, 4, none⟩ = some (.string (str x.v.s)))
    case first =>
      go_wp2_with (go_at_call 139; refine (c_ref04_Check x.v _ hs).mono ?_; rintro e w1 ⟨rfl, hb1⟩; have q1 := fun o => hb1.cell (p := ⟨w.heap.size, o, none⟩) (by simp))
      all_goals (go_meet; case rel => refine ⟨?_, (by repeat (first | exact Below.refl _ _ | refine Below.drew ?_ | refine Below.alloc ?_ (by first | omega | (simp; done) | (simp; omega)) _ | refine Below.setCell ?_ (by first | omega | (simp; done) | (simp; omega)) _ | refine Below.trans ?_ (Below.mono (by assumption) (by first | omega | (simp; done) | (simp; omega))))), ?_⟩ <;> (first | (have hz1 := hb1.size; simp at hz1) | skip) <;> (simp_all [] <;> first | omega | (intros; omega) | decide | grind))
    case rest =>
      obtain ⟨rfl, hb, hz, c0, c1, c2, c3, c4⟩ := hcut
      obtain ⟨fb, hfb⟩ : ∃ fb, (decide (0 ≤ x.n) && decide (x.n < 8) && x.v.ok) = fb := ⟨_, rfl⟩
      rw [hfb]
      have Hfb := Lib.hid hfb
      clear hfb
      cases hno : x.v.none <;> cases fb
      all_goals go_wp2_with (fail)
      all_goals (go_ret; refine RetV.bool ?_ (by repeat (first | exact Below.refl _ _ | refine Below.drew ?_ | refine Below.alloc ?_ (by first | omega | (simp; done) | (simp; omega)) _ | refine Below.setCell ?_ (by first | omega | (simp; done) | (simp; omega)) _ | refine Below.trans ?_ (Below.mono (by assumption) (by first | omega | (simp; done) | (simp; omega))))); have hfb := Hfb.out; have hnk := Val.none_ok (x := x.v); (simp_all [Node.ok] <;> first | omega | (intros; omega) | decide | grind))
end Go.Proofs.YtjhndilflcigiaaDoor
namespace Go.Proofs.YtjhndilflcigiaaDoor
open Go.RowKit

theorem endAt_hid (l : List Node) (i : Nat) : Hid (endFrom (l.drop (i + 0)) 1 (i + 0) = endAt l i) := (endAt_nat l i).symm

set_option maxHeartbeats 400000 in
theorem c_pred_End (l : List Node) (A : Option Addr) (c : Nat) (i : Int) (w : World) (h : InN w A c l) :
    Calls Tryd.prog 144 #[.slice A l.length c, .int .i64 i] w (RetV w (.int .i64 (endAt l i))) := by
  have hL := h.1
  have hC := h.2.1
  have hS := h.2.2.1
  by_cases h1 : i < 0
  · have H := Lib.hid (endAt_neg (l := l) h1)
    go_enter Tryd.func144, Tryd.ntmps144
    go_wp2
    go_ret
    exact RetV.int H.out.symm (Below.refl _ _)
  by_cases h2 : l.length ≤ i
  · have H := Lib.hid (endAt_past h2)
    go_enter Tryd.func144, Tryd.ntmps144
    go_wp2
    go_ret
    exact RetV.int H.out.symm (Below.refl _ _)
  obtain ⟨a, rfl⟩ : ∃ a : Nat, i = a := ⟨i.toNat, by omega⟩
  obtain ⟨b, off, rfl, hb, hrow⟩ := h.at (i := a) (by omega)
  clear h
  go_enter Tryd.func144, Tryd.ntmps144
  go_wp2
  go_loopw [5, 20] (fun need i wr => ∃ k : Nat, ∃ nd : Int, a + k ≤ l.length ∧ 1 ≤ nd ∧ nd ≤ 2 * k + 1 ∧ need = .int .i64 nd ∧ i = .int .i64 k ∧ Hid (endFrom (l.drop (a + k)) nd (a + k) = endAt l a) ∧ Below w.heap.size w wr)
     (fun _ i _ => l.length - (intOf i).toNat)
  case atStart => exact ⟨0, 1, by omega, by omega, by omega, rfl, rfl, endAt_hid l a, Below.refl _ _⟩
  case round =>
    obtain ⟨k, nd, hk, hnd1, hnd2, rfl, rfl, H, hbl⟩ := hrel
    by_cases hlt : a + k < l.length
    · obtain ⟨e0, e1, e2, e3, e4⟩ := (hrow.below hbl hb).node hlt (o := off + a * 5 + k * 5) (by omega)
      have hf := H.out
      rw [endFrom_at l (a + k) hlt] at hf
      obtain ⟨p, hp⟩ : ∃ p, parts l[a + k].op = p := ⟨_, rfl⟩
      have hpb := parts_bd l[a + k].op
      have Hp := Lib.hid hp
      rw [hp] at hf hpb
      have hpb1 := hpb.1
      have hpb2 := hpb.2
      have HF := Lib.hid hf
      have hbz := hbl.size
      clear hf hp hpb H
      by_cases hz : nd + (p - 1) = 0
      · go_wp2_with (go_at_call 175; refine (c_pred_Parts _ _).mono ?_; rintro e w1 ⟨rfl, hb1⟩; rw [Hp.out])
        go_ret
        refine RetV.int ?_ (by repeat (first | exact Below.refl _ _ | refine Below.drew ?_ | refine Below.alloc ?_ (by first | omega | (simp; done) | (simp; omega)) _ | refine Below.setCell ?_ (by first | omega | (simp; done) | (simp; omega)) _ | refine Below.trans ?_ (Below.mono (by assumption) (by first | omega | (simp; done) | (simp; omega)))))
        have hf := HF.out
        rw [if_pos hz] at hf
        rw [← hf]
        simp
      · go_wp2_with (go_at_call 175; refine (c_pred_Parts _ _).mono ?_; rintro e w1 ⟨rfl, hb1⟩; rw [Hp.out])
        go_roundw
        case rel =>
          refine ⟨k + 1, nd + (p - 1), by omega, by omega, by omega, rfl, by go_num, ?_, (by repeat (first | exact Below.refl _ _ | refine Below.drew ?_ | refine Below.alloc ?_ (by first | omega | (simp; done) | (simp; omega)) _ | refine Below.setCell ?_ (by first | omega | (simp; done) | (simp; omega)) _ | refine Below.trans ?_ (Below.mono (by assumption) (by first | omega | (simp; done) | (simp; omega)))))⟩
          have hf := HF.out
          rw [if_neg hz] at hf
          exact hf
        case measure => simp [intOf]; omega
    · go_wp2_with fail
      go_ret
      refine RetV.int ?_ hbl
      have := H.out
      rw [List.drop_of_length_le (by omega)] at this
      exact this
set_option maxHeartbeats 400000 in
theorem c_ref10_End (l : List Node) (A : Option Addr) (c : Nat) (i : Int) (w : World) (h : InN w A c l) :
    Calls Tryd.prog 141 #[.slice A l.length c, .int .i64 i] w (RetV w (.int .i64 (endAt l i))) := by
  have hL := h.1
  have hC := h.2.1
  have hS := h.2.2.1
  by_cases h1 : i < 0
  · have H := Lib.hid (endAt_neg (l := l) h1)
    go_enter Tryd.func141, Tryd.ntmps141
    go_wp2
    go_ret
    exact RetV.int H.out.symm (Below.refl _ _)
  by_cases h2 : l.length ≤ i
  · have H := Lib.hid (endAt_past h2)
    go_enter Tryd.func141, Tryd.ntmps141
    go_wp2_with fail
    refine wp_loop_rounds 1 ?_
    rw [rounds_succ]
    go_wp2_with fail
    go_ret
    exact RetV.int H.out.symm (Below.refl _ _)
  obtain ⟨a, rfl⟩ : ∃ a : Nat, i = a := ⟨i.toNat, by omega⟩
  obtain ⟨b, off, rfl, hb, hrow⟩ := h.at (i := a) (by omega)
  clear h
  go_enter Tryd.func141, Tryd.ntmps141
  go_wp2_with (fail)
  go_loopw [1, 5] (fun i need wr => ∃ k : Nat, ∃ nd : Int, a + k ≤ l.length ∧ 0 ≤ nd ∧ nd ≤ 2 * k + 1 ∧ (nd = 0 → 1 ≤ k) ∧ need = .int .i64 nd ∧ i = .int .i64 (a + k : Nat) ∧ Hid ((nd = 0 → ((a + k : Nat) : Int) = endAt l a) ∧ (nd ≠ 0 → endFrom (l.drop (a + k)) nd (a + k) = endAt l a)) ∧ Below w.heap.size w wr)
     (fun i _ _ => l.length - (intOf i).toNat)
  case atStart => exact ⟨0, 1, by omega, by omega, by omega, by omega, rfl, rfl, ⟨by omega, fun _ => endAt_hid l a⟩, Below.refl _ _⟩
  case round =>
    obtain ⟨k, nd, hk, hnd1, hnd2, hnd3, rfl, rfl, H, hbl⟩ := hrel
    have hbz := hbl.size
    by_cases hz : nd = 0
    · have H1 := Lib.hid (H.out.1 hz)
      clear H
      subst hz
      go_wp2_with (fail)
      all_goals (go_ret; exact RetV.int H1.out hbl)
    have hnd4 : 1 ≤ nd := by omega
    have hf := H.out.2 hz
    clear H
    by_cases hlt : a + k < l.length
    · obtain ⟨e0, e1, e2, e3, e4⟩ := (hrow.below hbl hb).node hlt (o := off + (a + k) * 5) (by omega)
      rw [endFrom_at l (a + k) hlt] at hf
      obtain ⟨p, hp⟩ : ∃ p, parts l[a + k].op = p := ⟨_, rfl⟩
      have hpb := parts_bd l[a + k].op
      have Hp := Lib.hid hp
      rw [hp] at hf hpb
      have hpb1 := hpb.1
      have hpb2 := hpb.2
      have HF := Lib.hid hf
      clear hf hp hpb
      go_wp2_with (go_at_call 173; refine (c_ref10_Parts _ _).mono ?_; rintro e w1 ⟨rfl, hb1⟩; rw [Hp.out])
      go_roundw
      case rel =>
        refine ⟨k + 1, nd - 1 + p, by omega, by omega, by omega, by omega, rfl, by go_num, ?_, (by repeat (first | exact Below.refl _ _ | refine Below.drew ?_ | refine Below.alloc ?_ (by first | omega | (simp; done) | (simp; omega)) _ | refine Below.setCell ?_ (by first | omega | (simp; done) | (simp; omega)) _ | refine Below.trans ?_ (Below.mono (by assumption) (by first | omega | (simp; done) | (simp; omega)))))⟩
        have hf := HF.out
        rw [show nd + (p - 1) = nd - 1 + p by omega] at hf
        refine ⟨fun e => ?_, fun e => ?_⟩
        · rw [if_pos e] at hf; rw [← hf]; omega
        · rw [if_neg e] at hf; exact hf
      case measure => simp [intOf]; omega
    · rw [List.drop_of_length_le (by omega)] at hf
      have HF := Lib.hid hf
      clear hf
      go_wp2_with fail
      go_ret
      exact RetV.int HF.out hbl
end Go.Proofs.YtjhndilflcigiaaDoor
