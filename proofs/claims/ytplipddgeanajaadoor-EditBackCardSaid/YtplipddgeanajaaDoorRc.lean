/-
  Cards, patches and edits taken off bytes, plain: what is read, and what the reader is then. No program is looked at here.
-/
import Derived.Test.YtplipddgeanajaaDoorRv
import Derived.Test.YtplipddgeanajaaDoorEd
namespace Go.Proofs.YtplipddgeanajaaDoor
open Go.RowKit

/-! The values of fields. -/
def fldS (b : Bool) (st : Rd) : Rd := if b = false ∧ (rdVal st).kind = 0 then rdF (rdVal' st) 3 else rdVal' st
theorem fldS_true (st : Rd) : fldS true st = rdVal' st := by unfold fldS; rw [if_neg (by simp)]
theorem fldS_zero {st : Rd} (h : (rdVal st).kind = 0) : fldS false st = rdF (rdVal' st) 3 := by unfold fldS; rw [if_pos ⟨rfl, h⟩]
theorem fldS_pos {b : Bool} {st : Rd} (h : (rdVal st).kind ≠ 0) : fldS b st = rdVal' st := by unfold fldS; rw [if_neg (fun k => h k.2)]
theorem fldS_bad {b : Bool} {st : Rd} (h : st.e ≠ 0) : fldS b st = st := by
  unfold fldS
  rw [(rdVal_err h).2]
  split
  · exact rdF_err h
  · rfl
theorem fldS_ok {b : Bool} {st : Rd} (h : (fldS b st).e = 0) : fldS b st = rdVal' st ∧ (rdVal' st).e = 0 ∧ (b = false → (rdVal st).kind ≠ 0) := by
  unfold fldS at h ⊢
  by_cases hc : b = false ∧ (rdVal st).kind = 0
  · rw [if_pos hc] at h
    exact absurd h (rdF_bad _ (by decide))
  · rw [if_neg hc] at h ⊢
    exact ⟨rfl, h, fun hb hk => hc ⟨hb, hk⟩⟩
theorem fldS_len (b : Bool) (st : Rd) : (fldS b st).s.length ≤ st.s.length := by
  have := rdVal'_len st
  unfold fldS; split
  · rw [rdF_s]; exact this
  · exact this
def rdFs' (b : Bool) : List Nat → Rd → Rd
  | [], st => st
  | _ :: l, st => rdFs' b l (fldS b st)
def rdFv (b : Bool) : List Nat → Rd → List Val → List Val
  | [], _, f => f
  | k :: l, st, f => rdFv b l (fldS b st) (f.set k (rdVal st))
theorem rdFs'_bad {b : Bool} {st : Rd} (h : st.e ≠ 0) : ∀ l, rdFs' b l st = st
  | [] => rfl
  | _ :: l => by rw [rdFs', fldS_bad h]; exact rdFs'_bad h l
theorem rdFs'_len (b : Bool) : ∀ l st, (rdFs' b l st).s.length ≤ st.s.length
  | [], _ => Nat.le_refl _
  | _ :: l, st => by have := rdFs'_len b l (fldS b st); have := fldS_len b st; rw [rdFs']; omega
theorem rdFv_len (b : Bool) : ∀ l st f, (rdFv b l st f).length = f.length
  | [], _, _ => rfl
  | k :: l, st, f => by rw [rdFv, rdFv_len b l]; simp
theorem rdFv_ok (b : Bool) : ∀ l st f, (∀ x ∈ f, x.ok = true) → ∀ x ∈ rdFv b l st f, x.ok = true
  | [], _, _, h => h
  | k :: l, st, f, h => by
    refine rdFv_ok b l _ _ fun x hx => ?_
    rcases List.mem_or_eq_of_mem_set hx with h' | rfl
    · exact h x h'
    · exact rdVal_ok st
theorem at8_set {f : List Val} {k : Nat} (h : k < f.length) (x : Val) (j : Nat) : at8 (f.set k x) j = if j = k then x else at8 f j := by
  unfold at8
  rw [List.getD_eq_getElem?_getD, List.getD_eq_getElem?_getD, List.getElem?_set]
  by_cases hj : j = k
  · subst hj; simp [h]
  · rw [if_neg (fun e => hj e.symm), if_neg hj]
theorem at8_f8z (k : Nat) : at8 f8z k = vz := by
  unfold at8
  rw [List.getD_eq_getElem?_getD, List.getElem?_replicate]
  split <;> rfl
theorem rdFv_far (b : Bool) : ∀ l st f k, (∀ j ∈ l, j < f.length) → k ∉ l → at8 (rdFv b l st f) k = at8 f k
  | [], _, _, _, _, _ => rfl
  | j :: l, st, f, k, hl, hk => by
    rw [rdFv, rdFv_far b l _ _ k (fun i hi => by rw [List.length_set]; exact hl i (List.mem_cons_of_mem _ hi)) (fun h => hk (List.mem_cons_of_mem _ h)), at8_set (hl j (List.mem_cons_self ..))]
    rw [if_neg (fun e => hk (by rw [e]; exact List.mem_cons_self ..))]
/-- Fields are read of their bytes. -/
theorem rdFs_put (b : Bool) (f : List Val) (r : List UInt8) : ∀ l g, (∀ k ∈ l, (at8 f k).ok = true ∧ (b = false → (at8 f k).kind ≠ 0)) → (∀ k ∈ l, k < g.length) →
    rdFs' b l ⟨bodyF f l ++ r, 0⟩ = ⟨r, 0⟩ ∧ ∀ j, at8 (rdFv b l ⟨bodyF f l ++ r, 0⟩ g) j = if j ∈ l then at8 f j else at8 g j
  | [], g, _, _ => ⟨rfl, fun j => by rw [if_neg (by simp)]; rfl⟩
  | k :: l, g, h, hg => by
    obtain ⟨h1, h2⟩ := h k (List.mem_cons_self ..)
    obtain ⟨a, c⟩ := rdVal_put h1 (bodyF f l ++ r)
    have e : bodyF f (k :: l) ++ r = valB (at8 f k) ++ (bodyF f l ++ r) := by unfold bodyF; rw [List.flatMap_cons, List.append_assoc]
    have hs : fldS b ⟨bodyF f (k :: l) ++ r, 0⟩ = ⟨bodyF f l ++ r, 0⟩ := by
      rw [e]
      cases b
      · rw [fldS_pos (by rw [a]; exact h2 rfl), c]
      · rw [fldS_true, c]
    obtain ⟨i1, i2⟩ := rdFs_put b f r l (g.set k (rdVal ⟨bodyF f (k :: l) ++ r, 0⟩)) (fun j hj => h j (List.mem_cons_of_mem _ hj)) (fun j hj => by rw [List.length_set]; exact hg j (List.mem_cons_of_mem _ hj))
    rw [rdFs', rdFv, hs]
    refine ⟨i1, fun j => ?_⟩
    rw [i2 j, at8_set (hg k (List.mem_cons_self ..)), e, a]
    by_cases hj : j ∈ l
    · rw [if_pos hj, if_pos (List.mem_cons_of_mem _ hj)]
    · rw [if_neg hj]
      by_cases hk : j = k
      · subst hk; rw [if_pos rfl, if_pos (List.mem_cons_self ..)]
      · rw [if_neg hk, if_neg (fun h => (List.mem_cons.1 h).elim hk hj)]
/-- What was taken for fields is their bytes. -/
theorem rdFs_took (b : Bool) : ∀ l st g, (rdFs' b l st).e = 0 → l.Nodup → (∀ k ∈ l, k < g.length) →
    st.e = 0 ∧ st.s = bodyF (rdFv b l st g) l ++ (rdFs' b l st).s ∧ (b = false → ∀ k ∈ l, (at8 (rdFv b l st g) k).kind ≠ 0)
  | [], st, g, h, _, _ => ⟨h, rfl, fun _ _ hk => by cases hk⟩
  | k :: l, st, g, h, hn, hg => by
    obtain ⟨n1, n2⟩ := List.nodup_cons.1 hn
    rw [rdFs'] at h
    have hg' : ∀ j ∈ l, j < (g.set k (rdVal st)).length := fun j hj => by rw [List.length_set]; exact hg j (List.mem_cons_of_mem _ hj)
    obtain ⟨i1, i2, i3⟩ := rdFs_took b l (fldS b st) (g.set k (rdVal st)) h n2 hg'
    obtain ⟨s1, s2, s3⟩ := fldS_ok i1
    obtain ⟨t1, t2, t3⟩ := rdVal_took s2
    have hv : at8 (rdFv b (k :: l) st g) k = rdVal st := by rw [rdFv, rdFv_far b l _ _ k hg' n1, at8_set (hg k (List.mem_cons_self ..)), if_pos rfl]
    refine ⟨t1, ?_, fun hb j hj => ?_⟩
    · rw [t3]
      show _ = (valB (at8 (rdFv b (k :: l) st g) k) ++ bodyF (rdFv b (k :: l) st g) l) ++ _
      rw [hv, List.append_assoc, rdFs', rdFv]
      congr 1
      rw [← s1]; exact i2
    · rcases List.mem_cons.1 hj with rfl | hj
      · rw [hv]; exact s3 hb
      · rw [rdFv]; exact i3 hb j hj
/-! The fields of a mask, from one on. -/
def bitsFrom (m k : Nat) : List Nat := (List.range' k (8 - k)).filter m.testBit
theorem bitsFrom_yes {m k : Nat} (hk : k < 8) (h : m.testBit k = true) : bitsFrom m k = k :: bitsFrom m (k + 1) := by
  unfold bitsFrom
  rw [show 8 - k = (8 - (k + 1)) + 1 by omega, List.range'_succ, List.filter_cons_of_pos h]
theorem bitsFrom_no {m k : Nat} (hk : k < 8) (h : m.testBit k = false) : bitsFrom m k = bitsFrom m (k + 1) := by
  unfold bitsFrom
  rw [show 8 - k = (8 - (k + 1)) + 1 by omega, List.range'_succ, List.filter_cons_of_neg (by simp [h])]
theorem bitsFrom_end (m : Nat) : bitsFrom m 8 = [] := rfl
theorem bitsFrom_zero (m : Nat) : bitsFrom m 0 = bitsTo m 8 := by unfold bitsFrom bitsTo; rw [List.range_eq_range']
theorem bitsTo_nodup (m k : Nat) : (bitsTo m k).Nodup := List.Pairwise.filter _ List.nodup_range
theorem bitsTo_mem {m k j : Nat} : j ∈ bitsTo m k ↔ j < k ∧ m.testBit j = true := by unfold bitsTo; rw [List.mem_filter, List.mem_range]
theorem bitsTo_zero (k : Nat) : bitsTo 0 k = [] := by unfold bitsTo; simp
theorem maskTo_bit (f : List Val) : ∀ k, k ≤ 32 → ∀ j, (maskTo f k).testBit j = (decide (j < k) && decide ((at8 f j).kind ≠ 0))
  | 0, _, j => by rw [show maskTo f 0 = 0 from rfl]; simp
  | k + 1, h, j => by
    have ih := maskTo_bit f k (by omega) j
    by_cases hk : (at8 f k).kind = 0
    · rw [maskTo_no hk, ih]
      by_cases hj : j = k
      · subst hj; simp [hk]
      · have : decide (j < k + 1) = decide (j < k) := by congr 1; simp only [eq_iff_iff]; omega
        rw [this]
    · rw [maskTo_yes (by omega) hk, Nat.testBit_or, ih, Nat.testBit_two_pow]
      by_cases hj : j = k
      · subst hj; simp [hk]
      · have : decide (j < k + 1) = decide (j < k) := by congr 1; simp only [eq_iff_iff]; omega
        rw [this]
        simp [Ne.symm hj]
theorem bitsTo_maskTo (f : List Val) : bitsTo (maskTo f 8) 8 = kindsTo f 8 := by
  unfold bitsTo kindsTo
  refine List.filter_congr fun j hj => ?_
  rw [maskTo_bit f 8 (by omega), decide_eq_true (List.mem_range.1 hj), Bool.true_and]
theorem maskTo_of {f : List Val} {m : Nat} (hm : m < 256) (h : ∀ j, j < 8 → (m.testBit j = true ↔ (at8 f j).kind ≠ 0)) : maskTo f 8 = m := by
  refine Nat.eq_of_testBit_eq fun j => ?_
  rw [maskTo_bit f 8 (by omega)]
  by_cases hj : j < 8
  · rw [decide_eq_true hj, Bool.true_and, Bool.eq_iff_iff, decide_eq_true_eq]
    exact (h j hj).symm
  · rw [decide_eq_false hj, Bool.false_and]
    exact (Nat.testBit_lt_two_pow (Nat.lt_of_lt_of_le hm (by rw [show (256 : Nat) = 2 ^ 8 from rfl]; exact Nat.pow_le_pow_right (by omega) (by omega)))).symm
theorem at8_ext {f g : List Val} (hf : f.length = 8) (hg : g.length = 8) (h : ∀ j, j < 8 → at8 f j = at8 g j) : f = g := by
  apply List.ext_getElem (by omega)
  intro i h1 h2
  have := h i (by omega)
  rw [at8_eq h1, at8_eq h2] at this
  exact this
/-! Cards. -/
def cdA (st : Rd) : Rd := rdAb' st 1073741823
def cdB (st : Rd) : Rd := rdAb' (cdA st) 1099511627776
def cdC (st : Rd) : Rd := rdN' (cdB st) 65535
def cdD (st : Rd) : Rd := rdN' (cdC st) 255
def cdM (st : Rd) : Nat := (rdN (cdC st) 255).toNat
def cdF (st : Rd) : List Val := rdFv false (bitsTo (cdM st) 8) (cdD st) f8z
@[irreducible] def rdCard' (st : Rd) : Rd := rdFs' false (bitsTo (cdM st) 8) (cdD st)
def cdCard (st : Rd) : Card := ⟨rdN st 1073741823, rdN (cdA st) 1099511627776, (rdN (cdB st) 65535).toNat, cdF st⟩
@[irreducible] def rdCard (st : Rd) : Card := if (rdCard' st).e = 0 then cdCard st else cz
theorem rdCard'_def (st : Rd) : rdCard' st = rdFs' false (bitsTo (cdM st) 8) (cdD st) := by unfold rdCard'; rfl
theorem rdCard_ok {st : Rd} (h : (rdCard' st).e = 0) : rdCard st = cdCard st := by unfold rdCard; rw [if_pos h]
theorem rdCard_bad {st : Rd} (h : (rdCard' st).e ≠ 0) : rdCard st = cz := by unfold rdCard; rw [if_neg h]
theorem f8z_ok : ∀ x ∈ f8z, x.ok = true := fun x hx => by rw [List.eq_of_mem_replicate hx]; decide
theorem cdF_len (st : Rd) : (cdF st).length = 8 := by unfold cdF; rw [rdFv_len]; rfl
theorem rdCard_len (st : Rd) : (rdCard st).f.length = 8 := by
  unfold rdCard; split
  · exact cdF_len st
  · rfl
theorem rdCard'_len (st : Rd) : (rdCard' st).s.length ≤ st.s.length := by
  have h1 := rdAb'_len st 1073741823
  have h2 := rdAb'_len (cdA st) 1099511627776
  have h3 := rdN'_len (cdB st) 65535
  have h4 := rdN'_len (cdC st) 255
  have h5 := rdFs'_len false (bitsTo (cdM st) 8) (cdD st)
  rw [rdCard'_def]
  have e1 : cdA st = rdAb' st 1073741823 := rfl
  have e2 : cdB st = rdAb' (cdA st) 1099511627776 := rfl
  have e3 : cdC st = rdN' (cdB st) 65535 := rfl
  have e4 : cdD st = rdN' (cdC st) 255 := rfl
  rw [← e1] at h1; rw [← e2] at h2; rw [← e3] at h3; rw [← e4] at h4
  omega
theorem vals_mem {f : List Val} (h : vals f = true) {x : Val} (hx : x ∈ f) : x.ok = true := by unfold vals at h; exact List.all_eq_true.1 h x hx
theorem vals_at {f : List Val} (h : vals f = true) {k : Nat} (hk : k < f.length) : (at8 f k).ok = true := by rw [at8_eq hk]; exact vals_mem h (List.getElem_mem _)
/-- A card that may be is read of its bytes. -/
theorem rdCard_put {c : Card} (h : c.ok = true) (hf : c.f.length = 8) (r : List UInt8) : rdCard ⟨cardB c ++ r, 0⟩ = c ∧ rdCard' ⟨cardB c ++ r, 0⟩ = ⟨r, 0⟩ := by
  obtain ⟨a1, a2, a3, a4, a5, a6⟩ := Card.ok_bds h
  have hm := maskTo_lt c.f 8 (by omega)
  have e : cardB c ++ r = num c.id ++ (num c.ver ++ (num c.lab ++ (num (maskTo c.f 8) ++ (bodyF c.f (kindsTo c.f 8) ++ r)))) := by rw [cardB_ok h]; simp
  obtain ⟨p1, q1⟩ := rdAb_num (n := c.id) (most := 1073741823) (num c.ver ++ (num c.lab ++ (num (maskTo c.f 8) ++ (bodyF c.f (kindsTo c.f 8) ++ r)))) (by omega) (by omega) (by omega)
  obtain ⟨p2, q2⟩ := rdAb_num (n := c.ver) (most := 1099511627776) (num c.lab ++ (num (maskTo c.f 8) ++ (bodyF c.f (kindsTo c.f 8) ++ r))) (by omega) (by omega) (by omega)
  obtain ⟨p3, q3⟩ := rdN_num (n := c.lab) (most := 65535) (num (maskTo c.f 8) ++ (bodyF c.f (kindsTo c.f 8) ++ r)) (by omega) (by omega) (by omega)
  obtain ⟨p4, q4⟩ := rdN_num (n := (maskTo c.f 8 : Nat)) (most := 255) (bodyF c.f (kindsTo c.f 8) ++ r) (by omega) (by omega) (by omega)
  have hA : cdA ⟨cardB c ++ r, 0⟩ = ⟨num c.ver ++ (num c.lab ++ (num (maskTo c.f 8) ++ (bodyF c.f (kindsTo c.f 8) ++ r))), 0⟩ := by unfold cdA; rw [e, q1]
  have hB : cdB ⟨cardB c ++ r, 0⟩ = ⟨num c.lab ++ (num (maskTo c.f 8) ++ (bodyF c.f (kindsTo c.f 8) ++ r)), 0⟩ := by unfold cdB; rw [hA, q2]
  have hC : cdC ⟨cardB c ++ r, 0⟩ = ⟨num (maskTo c.f 8) ++ (bodyF c.f (kindsTo c.f 8) ++ r), 0⟩ := by unfold cdC; rw [hB, q3]
  have hD : cdD ⟨cardB c ++ r, 0⟩ = ⟨bodyF c.f (kindsTo c.f 8) ++ r, 0⟩ := by unfold cdD; rw [hC, q4]
  have hM : cdM ⟨cardB c ++ r, 0⟩ = maskTo c.f 8 := by unfold cdM; rw [hC, p4]; rfl
  have hk : ∀ k ∈ kindsTo c.f 8, k < 8 ∧ (at8 c.f k).kind ≠ 0 := fun k hk => ⟨kindsTo_bd hk, by simpa using (List.mem_filter.1 hk).2⟩
  obtain ⟨i1, i2⟩ := rdFs_put false c.f r (kindsTo c.f 8) f8z (fun k h' => ⟨vals_at a6 (by have := (hk k h').1; omega), fun _ => (hk k h').2⟩) (fun k h' => (hk k h').1)
  have hS : rdCard' ⟨cardB c ++ r, 0⟩ = ⟨r, 0⟩ := by rw [rdCard'_def, hM, hD, bitsTo_maskTo, i1]
  refine ⟨?_, hS⟩
  rw [rdCard_ok (by rw [hS])]
  unfold cdCard
  have hF : cdF ⟨cardB c ++ r, 0⟩ = c.f := by
    refine at8_ext (cdF_len _) hf fun j hj => ?_
    unfold cdF
    rw [hM, hD, bitsTo_maskTo, i2 j]
    by_cases hj' : j ∈ kindsTo c.f 8
    · rw [if_pos hj']
    · rw [if_neg hj', at8_f8z]
      have hk0 : (at8 c.f j).kind = 0 := by
        by_cases h0 : (at8 c.f j).kind = 0
        · exact h0
        · exact absurd (List.mem_filter.2 ⟨List.mem_range.2 hj, by simpa using h0⟩) hj'
      exact (Val.ok_0 (vals_at a6 (by omega)) hk0).symm
  rw [hF, hA, hB, p2, p3, e, p1]
  rfl
/-- What was taken for a card is its bytes, and it may be. -/
theorem rdCard_took {st : Rd} (h : (rdCard' st).e = 0) : st.e = 0 ∧ (rdCard st).ok = true ∧ st.s = cardB (rdCard st) ++ (rdCard' st).s := by
  have hd := rdCard'_def st
  rw [hd] at h
  have hb : ∀ k ∈ bitsTo (cdM st) 8, k < f8z.length := fun k hk => bitsTo_bd hk
  obtain ⟨e4, s4, k4⟩ := rdFs_took false (bitsTo (cdM st) 8) (cdD st) f8z h (bitsTo_nodup _ _) hb
  obtain ⟨e3, s3, l3, m3⟩ := rdN_took2 (st := cdC st) (most := 255) e4
  obtain ⟨e2, s2, l2, m2⟩ := rdN_took2 (st := cdB st) (most := 65535) e3
  obtain ⟨e1, s1, l1, m1⟩ := rdAb_took (st := cdA st) (most := 1099511627776) e2
  obtain ⟨e0, s0, l0, m0⟩ := rdAb_took (st := st) (most := 1073741823) e1
  have hr : rdCard st = cdCard st := rdCard_ok (by rw [hd]; exact h)
  have hfo : vals (cdF st) = true := List.all_eq_true.2 (rdFv_ok false _ _ _ f8z_ok)
  have hok : (cdCard st).ok = true := by
    unfold Card.ok cdCard
    simp only [Bool.and_eq_true, decide_eq_true_eq]
    exact ⟨⟨⟨⟨⟨l0, by omega⟩, l1⟩, m1⟩, by omega⟩, hfo⟩
  have hM : (cdM st : Int) = rdN (cdC st) 255 := by unfold cdM; omega
  have hm : maskTo (cdF st) 8 = cdM st := by
    refine maskTo_of (by omega) fun j hj => ?_
    by_cases hjb : j ∈ bitsTo (cdM st) 8
    · exact ⟨fun _ => k4 rfl j hjb, fun _ => (bitsTo_mem.1 hjb).2⟩
    · have : at8 (cdF st) j = vz := by unfold cdF; rw [rdFv_far false _ _ _ j hb hjb, at8_f8z]
      rw [this]
      exact ⟨fun h' => absurd (bitsTo_mem.2 ⟨hj, h'⟩) hjb, fun h' => absurd rfl h'⟩
  refine ⟨e0, by rw [hr]; exact hok, ?_⟩
  rw [hr, cardB_ok hok, hd]
  show st.s = num (rdN st 1073741823) ++ num (rdN (cdA st) 1099511627776) ++ num ((rdN (cdB st) 65535).toNat : Int) ++ num (maskTo (cdF st) 8 : Nat) ++ bodyF (cdF st) (kindsTo (cdF st) 8) ++ _
  rw [← bitsTo_maskTo, hm, hM, Int.toNat_of_nonneg l2, s0]
  show _ ++ (cdA st).s = _
  rw [s1]
  show _ ++ (_ ++ (cdB st).s) = _
  rw [s2]
  show _ ++ (_ ++ (_ ++ (cdC st).s)) = _
  rw [s3]
  show _ ++ (_ ++ (_ ++ (_ ++ (cdD st).s))) = _
  rw [s4]
  show _ ++ (_ ++ (_ ++ (_ ++ (bodyF (cdF st) _ ++ _)))) = _
  simp
end Go.Proofs.YtplipddgeanajaaDoor
