/-
  A filter is read of its bytes, and what is read has just the bytes that were taken. No program is looked at here.
-/
import Derived.Test.YtoekhnppcakdnaaRp
namespace Go.Proofs.Ytoekhnppcakdnaa
open Go.RowKit

theorem Val.none_eq {x : Val} (h : x.none = true) : x = ⟨0, 0, []⟩ := by
  obtain ⟨k, n, s⟩ := x
  simp only [Val.none, Bool.and_eq_true, decide_eq_true_eq, List.isEmpty_iff] at h
  obtain ⟨⟨rfl, rfl⟩, rfl⟩ := h
  rfl
theorem Val.ok_0 {x : Val} (h : x.ok = true) (hk : x.kind = 0) : x = ⟨0, 0, []⟩ := Val.none_eq (by rw [Val.none_kind h]; simpa using hk)
theorem Val.ok_1 {x : Val} (h : x.ok = true) (hk : x.kind = 1) : 0 ≤ x.n ∧ x.n ≤ 1099511627776 ∧ x.s = [] := by
  unfold Val.ok at h
  rw [if_neg (by omega), if_pos hk] at h
  simp only [Bool.and_eq_true, decide_eq_true_eq, List.isEmpty_iff] at h
  exact ⟨h.1.1, h.1.2, h.2⟩
theorem Val.ok_2 {x : Val} (h : x.ok = true) (hk : x.kind = 2) : x.n = 0 ∧ x.s.length ≤ 24 := by
  unfold Val.ok at h
  rw [if_neg (by omega), if_neg (by omega), if_pos hk] at h
  simp only [Bool.and_eq_true, decide_eq_true_eq] at h
  exact h
theorem Val.ok_kinds {x : Val} (h : x.ok = true) : x.kind = 0 ∨ x.kind = 1 ∨ x.kind = 2 := by
  unfold Val.ok at h
  by_cases h0 : x.kind = 0
  · exact .inl h0
  · by_cases h1 : x.kind = 1
    · exact .inr (.inl h1)
    · by_cases h2 : x.kind = 2
      · exact .inr (.inr h2)
      · simp [h0, h1, h2] at h
/-- A value that may be is read of its bytes. -/
theorem rdVal_put {x : Val} (h : x.ok = true) (r : List UInt8) : rdVal ⟨valB x ++ r, 0⟩ = x ∧ rdVal' ⟨valB x ++ r, 0⟩ = ⟨r, 0⟩ := by
  obtain ⟨k, n, s⟩ := x
  rcases Val.ok_kinds h with hk | hk | hk
  · have e := Val.ok_0 h hk
    obtain rfl : k = 0 := hk
    rw [valB_0 h rfl]
    obtain ⟨h1, h2⟩ := rdN_num (n := 0) (most := 2) r (by omega) (by omega) (by omega)
    have h3 : rdVal' ⟨num 0 ++ r, 0⟩ = ⟨r, 0⟩ := by rw [rdVal'_0 h1, h2]
    exact ⟨by rw [rdVal_0 (by rw [h3]) h1, e], h3⟩
  · obtain ⟨e1, e2, e3⟩ := Val.ok_1 h hk
    simp only at e1 e2 e3
    obtain rfl : k = 1 := hk
    subst e3
    rw [valB_1 h rfl, List.append_assoc]
    obtain ⟨h1, h2⟩ := rdN_num (n := 1) (most := 2) (num n ++ r) (by omega) (by omega) (by omega)
    obtain ⟨h3, h4⟩ := rdN_num (n := n) (most := 1099511627776) r e1 e2 e2
    have h5 : rdVal' ⟨num 1 ++ (num n ++ r), 0⟩ = ⟨r, 0⟩ := by rw [rdVal'_1 h1, h2, h4]
    exact ⟨by rw [rdVal_1 (by rw [h5]) h1, h2, h3], h5⟩
  · obtain ⟨e1, e2⟩ := Val.ok_2 h hk
    simp only at e1 e2
    obtain rfl : k = 2 := hk
    subst e1
    rw [valB_2 h rfl, List.append_assoc]
    obtain ⟨h1, h2⟩ := rdN_num (n := 2) (most := 2) (strB s ++ r) (by omega) (by omega) (by omega)
    obtain ⟨h3, h4⟩ := rdS_str (s := s) (most := 24) r (by omega) (by omega)
    have h5 : rdVal' ⟨num 2 ++ (strB s ++ r), 0⟩ = ⟨r, 0⟩ := by rw [rdVal'_2 h1, h2, h4]
    exact ⟨by rw [rdVal_2 (by rw [h5]) h1, h2, h3], h5⟩
/-- What was taken for a value is its bytes, and it may be. -/
theorem rdVal_took {st : Rd} (h : (rdVal' st).e = 0) : st.e = 0 ∧ (rdVal st).ok = true ∧ st.s = valB (rdVal st) ++ (rdVal' st).s := by
  rcases rdN2_cases st with h0 | h0 | h0
  · have h1 := rdVal'_0 h0
    have h' := h
    rw [h1] at h'
    obtain ⟨e, u, e1, e2, _⟩ := rdN_took h'
    have hv := rdVal_0 h h0
    have hok : (⟨0, 0, []⟩ : Val).ok = true := by decide
    rw [hv, h1, valB_0 hok rfl]
    exact ⟨e, hok, by rw [e1, e2, h0]⟩
  · have h1 := rdVal'_1 h0
    have h' := h
    rw [h1] at h'
    obtain ⟨e, u, e1, e2, _⟩ := rdN_took h'
    obtain ⟨f, u', f1, f2, _⟩ := rdN_took e
    have hb := rdN_bd (rdN' st 2) 1099511627776
    have hv := rdVal_1 h h0
    have hok : (⟨1, rdN (rdN' st 2) 1099511627776, []⟩ : Val).ok = true := by simp [Val.ok]; omega
    rw [hv, h1, valB_1 hok rfl]
    exact ⟨f, hok, by rw [f1, f2, e1, e2, h0]; simp⟩
  · have h1 := rdVal'_2 h0
    have h' := h
    rw [h1] at h'
    obtain ⟨e, u, e1, e2, e3⟩ := rdS_took h'
    obtain ⟨f, u', f1, f2, _⟩ := rdN_took e
    have hv := rdVal_2 h h0
    have hok : (⟨2, 0, rdS (rdN' st 2) 24⟩ : Val).ok = true := by simp [Val.ok]; omega
    rw [hv, h1, valB_2 hok rfl]
    exact ⟨f, hok, by rw [f1, f2, e1, e2, h0]; simp⟩
/-! Nodes. -/
theorem Node.ok_op {x : Node} (h : x.ok = true) : 1 ≤ x.op ∧ x.op ≤ 12 := by
  unfold Node.ok at h
  split at h
  · omega
  · split at h
    · omega
    · split at h
      · omega
      · split at h
        · omega
        · split at h
          · omega
          · cases h
theorem Node.ok_A {x : Node} (h : x.ok = true) (h1 : named x.op = false) : x.n = 0 ∧ x.v = ⟨0, 0, []⟩ := by
  have := Node.ok_op h
  unfold named at h1
  have h1' : x.op < 3 ∨ 9 < x.op := by simp at h1; omega
  unfold Node.ok at h
  rw [if_pos (by omega)] at h
  simp only [Bool.and_eq_true, decide_eq_true_eq] at h
  exact ⟨h.1, Val.none_eq h.2⟩
theorem Node.ok_B {x : Node} (h : x.ok = true) (h1 : named x.op = true) : 0 ≤ x.n ∧ x.n ≤ belowOf x.op - 1 := by
  have h1' : 3 ≤ x.op ∧ x.op ≤ 9 := by simpa [named] using h1
  unfold Node.ok at h
  rw [if_neg (by omega)] at h
  unfold belowOf
  by_cases h3 : x.op = 3 ∨ x.op = 4
  · rw [if_pos h3] at h ⊢
    simp only [Bool.and_eq_true, decide_eq_true_eq] at h
    omega
  · rw [if_neg h3] at h ⊢
    split at h
    · simp only [Bool.and_eq_true, decide_eq_true_eq] at h; omega
    · split at h
      · simp only [Bool.and_eq_true, decide_eq_true_eq] at h; omega
      · split at h
        · simp only [Bool.and_eq_true, decide_eq_true_eq] at h; omega
        · cases h
theorem Node.ok_V0 {x : Node} (h : x.ok = true) (h1 : named x.op = true) (h2 : valued x.op = false) : x.v = ⟨0, 0, []⟩ := by
  have h1' : 3 ≤ x.op ∧ x.op ≤ 9 := by simpa [named] using h1
  have h2' : x.op < 6 := by simp [valued] at h2; omega
  unfold Node.ok at h
  rw [if_neg (by omega)] at h
  split at h
  · simp only [Bool.and_eq_true, decide_eq_true_eq] at h; exact Val.none_eq h.2
  · rw [if_pos (by omega)] at h
    simp only [Bool.and_eq_true, decide_eq_true_eq] at h; exact Val.none_eq h.2
theorem Node.ok_V {x : Node} (h : x.ok = true) (h2 : valued x.op = true) : x.v.ok = true := by
  have h2' : 6 ≤ x.op ∧ x.op ≤ 9 := by simpa [valued] using h2
  unfold Node.ok at h
  rw [if_neg (by omega), if_neg (by omega), if_neg (by omega)] at h
  split at h
  · simp only [Bool.and_eq_true] at h; exact h.1.2
  · rw [if_pos (by omega)] at h
    simp only [Bool.and_eq_true] at h; exact h.1.2
theorem nd_put {x : Node} (h : x.ok = true) (r : List UInt8) : ndNode ⟨nodeB x ++ r, 0⟩ = x ∧ ndD ⟨nodeB x ++ r, 0⟩ = ⟨r, 0⟩ := by
  have hop := Node.ok_op h
  obtain ⟨op, n, v⟩ := x
  simp only at hop
  rcases named_cases op with ⟨h1, h2⟩ | ⟨h1, h2⟩ | ⟨h1, h2⟩
  · obtain ⟨e1, e2⟩ := Node.ok_A h h1
    simp only at e1 e2
    subst e1 e2
    rw [nodeB_A h1 h2]
    simp only
    obtain ⟨a1, a2⟩ := rdN_num (n := op) (most := 12) r (by omega) (by omega) (by omega)
    obtain ⟨b1, b2⟩ := nd_A (st := ⟨num op ++ r, 0⟩) (by rw [a1]; omega) (by rw [a1]; exact h1) (by rw [a1]; exact h2)
    rw [b1, b2, a1, a2]
    exact ⟨rfl, rfl⟩
  · obtain ⟨e1, e2⟩ := Node.ok_B h h1
    have e3 := Node.ok_V0 h h1 h2
    simp only at e1 e2 e3
    subst e3
    have hbd := belowOf_bd op
    rw [nodeB_B h1 h2]
    simp only
    rw [List.append_assoc]
    obtain ⟨a1, a2⟩ := rdN_num (n := op) (most := 12) (num n ++ r) (by omega) (by omega) (by omega)
    obtain ⟨c1, c2⟩ := rdN_num (n := n) (most := belowOf op - 1) r (by omega) (by omega) (by omega)
    obtain ⟨b1, b2⟩ := nd_B (st := ⟨num op ++ (num n ++ r), 0⟩) (by rw [a1]; omega) (by rw [a1]; exact h1) (by rw [a1]; exact h2)
    rw [b1, b2, a1, a2, c1, c2]
    exact ⟨rfl, rfl⟩
  · obtain ⟨e1, e2⟩ := Node.ok_B h h1
    have e3 := Node.ok_V h h2
    simp only at e1 e2 e3
    have hbd := belowOf_bd op
    rw [nodeB_C h1 h2]
    simp only
    rw [List.append_assoc, List.append_assoc]
    obtain ⟨a1, a2⟩ := rdN_num (n := op) (most := 12) (num n ++ (valB v ++ r)) (by omega) (by omega) (by omega)
    obtain ⟨c1, c2⟩ := rdN_num (n := n) (most := belowOf op - 1) (valB v ++ r) (by omega) (by omega) (by omega)
    obtain ⟨d1, d2⟩ := rdVal_put e3 r
    obtain ⟨b1, b2⟩ := nd_C (st := ⟨num op ++ (num n ++ (valB v ++ r)), 0⟩) (by rw [a1]; omega) (by rw [a1]; exact h1) (by rw [a1]; exact h2)
    rw [a1, a2, c1, c2, d1] at b1
    rw [b1, h, if_neg (by decide), a1, a2, c2, d2] at b2
    exact ⟨b1, b2⟩
theorem nd_took {st : Rd} (h : (ndD st).e = 0) : st.e = 0 ∧ (ndNode st).ok = true ∧ st.s = nodeB (ndNode st) ++ (ndD st).s := by
  have hn := rdN_bd st 12
  by_cases hop : rdN st 12 = 0
  · exfalso
    have hd : ndD st = rdF (rdN' st 12) 3 := by simp [ndD, ndC, ndB, ndA, hop, named_zero, valued_zero]
    rw [hd] at h
    exact rdF_bad _ (by decide) h
  · obtain ⟨h0, h0'⟩ := rdN_ok hop
    obtain ⟨_, u, e1, e2, _⟩ := rdN_took h0'
    rcases named_cases (rdN st 12) with ⟨h1, h2⟩ | ⟨h1, h2⟩ | ⟨h1, h2⟩
    · obtain ⟨b1, b2⟩ := nd_A hop h1 h2
      have h1' : rdN st 12 < 3 ∨ 9 < rdN st 12 := by simp [named] at h1; omega
      rw [b1, b2, nodeB_A (x := ⟨rdN st 12, 0, ⟨0, 0, []⟩⟩) h1 h2]
      refine ⟨h0, ?_, by rw [e1, e2]⟩
      unfold Node.ok
      rw [if_pos (by simp only; omega)]
      simp [Val.none]
    · obtain ⟨b1, b2⟩ := nd_B hop h1 h2
      rw [b2] at h
      obtain ⟨_, u', f1, f2, f3⟩ := rdN_took h
      have hb := rdN_bd (rdN' st 12) (belowOf (rdN st 12) - 1)
      have h1' : 3 ≤ rdN st 12 ∧ rdN st 12 ≤ 9 := by simpa [named] using h1
      have h2' : rdN st 12 < 6 := by simp [valued] at h2; omega
      rw [b1, b2, nodeB_B (x := ⟨rdN st 12, rdN (rdN' st 12) (belowOf (rdN st 12) - 1), ⟨0, 0, []⟩⟩) h1 h2]
      refine ⟨h0, ?_, by rw [e1, e2, f1, f2]; simp⟩
      unfold Node.ok
      simp only
      rw [if_neg (by omega)]
      unfold belowOf at *
      by_cases h34 : rdN st 12 = 3 ∨ rdN st 12 = 4
      · rw [if_pos h34] at *
        rw [if_pos h34]
        have h0n := hb.1
        have h1n : rdN (rdN' st 12) (16 - 1) < 16 := by omega
        simp [Val.none]
        exact ⟨h0n, h1n⟩
      · rw [if_neg h34] at *
        rw [if_neg h34, if_pos (by omega)]
        have h0n := hb.1
        have h1n : rdN (rdN' st 12) (8 - 1) < 8 := by omega
        simp [Val.none]
        exact ⟨h0n, h1n⟩
    · obtain ⟨b1, b2⟩ := nd_C hop h1 h2
      cases hok : (ndNode st).ok
      · rw [b2, hok, if_pos rfl] at h
        exact absurd h (rdF_bad _ (by decide))
      · rw [hok, if_neg (by decide)] at b2
        rw [b2] at h
        obtain ⟨g0, g1, g2⟩ := rdVal_took h
        obtain ⟨_, u', f1, f2, f3⟩ := rdN_took g0
        rw [b1, b2, nodeB_C (x := ⟨rdN st 12, rdN (rdN' st 12) (belowOf (rdN st 12) - 1), rdVal (rdN' (rdN' st 12) (belowOf (rdN st 12) - 1))⟩) h1 h2]
        exact ⟨h0, rfl, by rw [e1, e2, f1, f2, g2]; simp⟩
theorem rdNodes_put : ∀ (l : List Node) (r : List UInt8), (∀ x ∈ l, x.ok = true) → rdNodes l.length ⟨l.flatMap nodeB ++ r, 0⟩ = l ∧ rdNodes' l.length ⟨l.flatMap nodeB ++ r, 0⟩ = ⟨r, 0⟩
  | [], r, _ => ⟨rfl, rfl⟩
  | x :: l, r, h => by
    obtain ⟨h1, h2⟩ := rdNodes_put l r (fun y hy => h y (List.mem_cons_of_mem _ hy))
    obtain ⟨a1, a2⟩ := nd_put (h x (List.mem_cons_self ..)) (l.flatMap nodeB ++ r)
    rw [List.flatMap_cons, List.append_assoc, List.length_cons, rdNodes_ok rfl, rdNodes'_ok rfl, a1, a2, h1, h2]
    exact ⟨rfl, rfl⟩
theorem rdNodes_took : ∀ (k : Nat) (st : Rd), (rdNodes' k st).e = 0 → st.e = 0 ∧ (rdNodes k st).length = k ∧ st.s = (rdNodes k st).flatMap nodeB ++ (rdNodes' k st).s
  | 0, st, h => ⟨h, rfl, by simp [rdNodes, rdNodes']⟩
  | k + 1, st, h => by
    by_cases h0 : st.e = 0
    · rw [rdNodes'_ok h0] at h
      obtain ⟨h1, h2, h3⟩ := rdNodes_took k (ndD st) h
      obtain ⟨_, _, g3⟩ := nd_took h1
      rw [rdNodes_ok h0, rdNodes'_ok h0, List.flatMap_cons, List.length_cons, h2, List.append_assoc, ← h3]
      exact ⟨h0, rfl, g3⟩
    · rw [rdNodes'_bad h0] at h
      exact absurd h h0
/-- A filter that may be is read of its bytes. -/
theorem rdPred_put {l : List Node} (h : check l = 0) (r : List UInt8) : rdPred ⟨putB l ++ r, 0⟩ = l ∧ rdPred' ⟨putB l ++ r, 0⟩ = ⟨r, 0⟩ := by
  have hl := check_len h
  have hpos : 0 < l.length := by
    rcases Nat.eq_zero_or_pos l.length with h0 | h0
    · have : l = [] := List.eq_nil_of_length_eq_zero h0
      subst this
      exact absurd h (by decide)
    · exact h0
  obtain ⟨a1, a2⟩ := rdN_num (n := l.length) (most := 31) (l.flatMap nodeB ++ r) (by omega) (by omega) (by omega)
  obtain ⟨b1, b2⟩ := rdNodes_put l r (check_ok h)
  have hA : pdA ⟨num l.length ++ (l.flatMap nodeB ++ r), 0⟩ = ⟨l.flatMap nodeB ++ r, 0⟩ := by unfold pdA; rw [a1, a2, if_neg (by omega)]
  have hL : pdL ⟨num l.length ++ (l.flatMap nodeB ++ r), 0⟩ = l := by unfold pdL; rw [hA, a1, Int.toNat_natCast, b1]
  have hS : pdS ⟨num l.length ++ (l.flatMap nodeB ++ r), 0⟩ = ⟨r, 0⟩ := by unfold pdS; rw [hA, a1, Int.toNat_natCast, b2]
  rw [putB_ok h, List.append_assoc]
  obtain ⟨c1, c2⟩ := rdPred_ok (st := ⟨num l.length ++ (l.flatMap nodeB ++ r), 0⟩) (by rw [hS]) (by rw [hL]; exact h)
  rw [c1, c2, hL, hS]
  exact ⟨rfl, rfl⟩
/-- What was taken for a filter is its bytes, and it may be. -/
theorem rdPred_took {st : Rd} (h : (rdPred' st).e = 0) : check (rdPred st) = 0 ∧ st.s = putB (rdPred st) ++ (rdPred' st).s := by
  by_cases hS : (pdS st).e = 0
  · rcases check_cases (pdL_len st) with hc | hc | hc
    · obtain ⟨c1, c2⟩ := rdPred_ok hS hc
      rw [c1, c2]
      refine ⟨hc, ?_⟩
      have hop : rdN st 31 ≠ 0 := fun h0 => by
        unfold pdS pdA at hS
        rw [if_pos h0, h0] at hS
        exact rdF_bad _ (by decide) hS
      have hA : pdA st = rdN' st 31 := by unfold pdA; rw [if_neg hop]
      have hb := rdN_bd st 31
      obtain ⟨d1, d2, d3⟩ := rdNodes_took (rdN st 31).toNat (pdA st) hS
      rw [hA] at d1 d2 d3
      obtain ⟨_, u, e1, e2, _⟩ := rdN_took d1
      have hlen : ((pdL st).length : Int) = rdN st 31 := by unfold pdL; rw [hA, d2]; omega
      rw [putB_ok hc, hlen, e1, e2, List.append_assoc]
      congr 1
      rw [d3]
      unfold pdL pdS
      rw [hA]
    · rw [(rdPred_1 hS hc).2] at h
      exact absurd h (rdF_bad _ (by decide))
    · rw [(rdPred_5 hS hc).2] at h
      exact absurd h (rdF_bad _ (by decide))
  · rw [(rdPred_bad hS).2] at h
    exact absurd h hS
/-! What is left only gets shorter. -/
theorem rdVal'_len (st : Rd) : (rdVal' st).s.length ≤ st.s.length := by
  have h1 := rdN'_len st 2
  have h2 := rdN'_len (rdN' st 2) 1099511627776
  have h3 := rdS'_len (rdN' st 2) 24
  unfold rdVal'
  split
  · omega
  · split <;> omega
theorem ndD_len (st : Rd) : (ndD st).s.length ≤ st.s.length := by
  have h1 := rdN'_len st 12
  have hA : (ndA st).s.length ≤ st.s.length := by
    unfold ndA; split
    · have := rdF_len (rdN' st 12) 3; omega
    · exact h1
  have hB : (ndB st).s.length ≤ st.s.length := by
    unfold ndB; split
    · have := rdN'_len (ndA st) (belowOf (rdN st 12) - 1); omega
    · exact hA
  have hC : (ndC st).s.length ≤ st.s.length := by
    unfold ndC; split
    · have := rdVal'_len (ndB st); omega
    · exact hB
  unfold ndD; split
  · have := rdF_len (ndC st) 3; omega
  · exact hC
theorem rdNodes'_len : ∀ k st, (rdNodes' k st).s.length ≤ st.s.length
  | 0, st => Nat.le_refl _
  | k + 1, st => by
    have := rdNodes'_len k (ndD st)
    have := ndD_len st
    unfold rdNodes'; split <;> omega
theorem rdPred'_len (st : Rd) : (rdPred' st).s.length ≤ st.s.length := by
  have h1 := rdN'_len st 31
  have hA : (pdA st).s.length ≤ st.s.length := by
    unfold pdA; split
    · have := rdF_len (rdN' st 31) 3; omega
    · exact h1
  have hS : (pdS st).s.length ≤ st.s.length := by
    have := rdNodes'_len (rdN st 31).toNat (pdA st)
    unfold pdS; omega
  unfold rdPred'
  split
  · split
    · exact hS
    · split <;> simpa using hS
  · exact hS
end Go.Proofs.Ytoekhnppcakdnaa
