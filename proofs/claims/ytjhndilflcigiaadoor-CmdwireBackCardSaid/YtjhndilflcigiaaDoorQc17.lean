/-
  A filter is read of its bytes, and what is read has just the bytes that were taken. No program is looked at here.
-/
import Derived.Test.YtjhndilflcigiaaDoorQc16
import Derived.Test.YtjhndilflcigiaaDoorRows
import Derived.WalkKit
import Derived.WalkSpells
import Derived.WalkLawsBesides
import Derived.Lib.Hide
import Derived.Deep.QuietTactic
import Derived.BigQuiet
import Derived.Maps.AppendAt
import Derived.WalkSmall
import Derived.ProofKit
import Derived.OpenShut
import Derived.JoinedCond
import Derived.Deep.Slices
import Derived.Deep.Fields
import Derived.Carry
import Derived.Deep.AppendSrc
import Derived.Lib.AppendStr
import Derived.Laws.BytesArg
import Derived.Test.YtjhndilflcigiaaDoorProg
import Derived.Shelf.Spec.TrailingZeros
import Derived.RangeFuncNested
import Derived.RangeFuncBound
import Derived.RangeFuncCalls
import Derived.RangeFuncLeaves
import Derived.Shelf.Abstract
import Derived.Shelf.RegionOpen
import Derived.OwnWalkIn
import Derived.TacticsInMore
import Derived.LoopNIn
import Derived.LoopIn
import Derived.Test.YtjhndilflcigiaaDoorTie
import Derived.Lib.LaidTab
import Derived.LaidMore
import Derived.SevenTiedAt
import Derived.Test.YtjhndilflcigiaaDoorCards
import Derived.Laws.Tables
import Derived.Laws.Rows
import Derived.ChangeKeysEq
import Derived.Laws.StructEq
import Derived.Deep.CutBlock
import Derived.Deep.DeepCutAuto
import Derived.Laws.CopyOwn
import Derived.Outline
import Derived.IntWalk
import Derived.Lib.EndianBits
import Derived.StillTail
import Derived.Lib.AppendZeros
import Derived.Deep.Quiet
import Derived.Maps.Own
import Derived.WalkMore
namespace Go.Proofs.YtjhndilflcigiaaDoor
open Go.RowKit

/-! Nodes. -/
theorem Node.ok_op {x : Node} (h : x.ok = true) : 1 ≤ x.op ∧ x.op ≤ 12 := by
  unfold Node.ok at h
  split at h
  · omega
  · split at h
    · omega
    · split at h
      · omega
      · split at h
        · omega
        · split at h
          · omega
          · cases h
theorem Node.ok_A {x : Node} (h : x.ok = true) (h1 : named x.op = false) : x.n = 0 ∧ x.v = ⟨0, 0, []⟩ := by
  have := Node.ok_op h
  unfold named at h1
  have h1' : x.op < 3 ∨ 9 < x.op := by simp at h1; omega
  unfold Node.ok at h
  rw [if_pos (by omega)] at h
  simp only [Bool.and_eq_true, decide_eq_true_eq] at h
  exact ⟨h.1, Val.none_eq h.2⟩
theorem Node.ok_B {x : Node} (h : x.ok = true) (h1 : named x.op = true) : 0 ≤ x.n ∧ x.n ≤ belowOf x.op - 1 := by
  have h1' : 3 ≤ x.op ∧ x.op ≤ 9 := by simpa [named] using h1
  unfold Node.ok at h
  rw [if_neg (by omega)] at h
  unfold belowOf
  by_cases h3 : x.op = 3 ∨ x.op = 4
  · rw [if_pos h3] at h ⊢
    simp only [Bool.and_eq_true, decide_eq_true_eq] at h
    omega
  · rw [if_neg h3] at h ⊢
    split at h
    · simp only [Bool.and_eq_true, decide_eq_true_eq] at h; omega
    · split at h
      · simp only [Bool.and_eq_true, decide_eq_true_eq] at h; omega
      · split at h
        · simp only [Bool.and_eq_true, decide_eq_true_eq] at h; omega
        · cases h
theorem Node.ok_V0 {x : Node} (h : x.ok = true) (h1 : named x.op = true) (h2 : valued x.op = false) : x.v = ⟨0, 0, []⟩ := by
  have h1' : 3 ≤ x.op ∧ x.op ≤ 9 := by simpa [named] using h1
  have h2' : x.op < 6 := by simp [valued] at h2; omega
  unfold Node.ok at h
  rw [if_neg (by omega)] at h
  split at h
  · simp only [Bool.and_eq_true, decide_eq_true_eq] at h; exact Val.none_eq h.2
  · rw [if_pos (by omega)] at h
    simp only [Bool.and_eq_true, decide_eq_true_eq] at h; exact Val.none_eq h.2
theorem Node.ok_V {x : Node} (h : x.ok = true) (h2 : valued x.op = true) : x.v.ok = true := by
  have h2' : 6 ≤ x.op ∧ x.op ≤ 9 := by simpa [valued] using h2
  unfold Node.ok at h
  rw [if_neg (by omega), if_neg (by omega), if_neg (by omega)] at h
  split at h
  · simp only [Bool.and_eq_true] at h; exact h.1.2
  · rw [if_pos (by omega)] at h
    simp only [Bool.and_eq_true] at h; exact h.1.2
theorem nd_put {x : Node} (h : x.ok = true) (r : List UInt8) : ndNode ⟨nodeB x ++ r, 0⟩ = x ∧ ndD ⟨nodeB x ++ r, 0⟩ = ⟨r, 0⟩ := by
  have hop := Node.ok_op h
  obtain ⟨op, n, v⟩ := x
  simp only at hop
  rcases named_cases op with ⟨h1, h2⟩ | ⟨h1, h2⟩ | ⟨h1, h2⟩
  · obtain ⟨e1, e2⟩ := Node.ok_A h h1
    simp only at e1 e2
    subst e1 e2
    rw [nodeB_A h1 h2]
    simp only
    obtain ⟨a1, a2⟩ := rdN_num (n := op) (most := 12) r (by omega) (by omega) (by omega)
    obtain ⟨b1, b2⟩ := nd_A (st := ⟨num op ++ r, 0⟩) (by rw [a1]; omega) (by rw [a1]; exact h1) (by rw [a1]; exact h2)
    rw [b1, b2, a1, a2]
    exact ⟨rfl, rfl⟩
  · obtain ⟨e1, e2⟩ := Node.ok_B h h1
    have e3 := Node.ok_V0 h h1 h2
    simp only at e1 e2 e3
    subst e3
    have hbd := belowOf_bd op
    rw [nodeB_B h1 h2]
    simp only
    rw [List.append_assoc]
    obtain ⟨a1, a2⟩ := rdN_num (n := op) (most := 12) (num n ++ r) (by omega) (by omega) (by omega)
    obtain ⟨c1, c2⟩ := rdN_num (n := n) (most := belowOf op - 1) r (by omega) (by omega) (by omega)
    obtain ⟨b1, b2⟩ := nd_B (st := ⟨num op ++ (num n ++ r), 0⟩) (by rw [a1]; omega) (by rw [a1]; exact h1) (by rw [a1]; exact h2)
    rw [b1, b2, a1, a2, c1, c2]
    exact ⟨rfl, rfl⟩
  · obtain ⟨e1, e2⟩ := Node.ok_B h h1
    have e3 := Node.ok_V h h2
    simp only at e1 e2 e3
    have hbd := belowOf_bd op
    rw [nodeB_C h1 h2]
    simp only
    rw [List.append_assoc, List.append_assoc]
    obtain ⟨a1, a2⟩ := rdN_num (n := op) (most := 12) (num n ++ (valB v ++ r)) (by omega) (by omega) (by omega)
    obtain ⟨c1, c2⟩ := rdN_num (n := n) (most := belowOf op - 1) (valB v ++ r) (by omega) (by omega) (by omega)
    obtain ⟨d1, d2⟩ := rdVal_put e3 r
    obtain ⟨b1, b2⟩ := nd_C (st := ⟨num op ++ (num n ++ (valB v ++ r)), 0⟩) (by rw [a1]; omega) (by rw [a1]; exact h1) (by rw [a1]; exact h2)
    rw [a1, a2, c1, c2, d1] at b1
    rw [b1, h, if_neg (by decide), a1, a2, c2, d2] at b2
    exact ⟨b1, b2⟩
theorem nd_took {st : Rd} (h : (ndD st).e = 0) : st.e = 0 ∧ (ndNode st).ok = true ∧ st.s = nodeB (ndNode st) ++ (ndD st).s := by
  have hn := rdN_bd st 12
  by_cases hop : rdN st 12 = 0
  · exfalso
    have hd : ndD st = rdF (rdN' st 12) 3 := by simp [ndD, ndC, ndB, ndA, hop, named_zero, valued_zero]
    rw [hd] at h
    exact rdF_bad _ (by decide) h
  · obtain ⟨h0, h0'⟩ := rdN_ok hop
    obtain ⟨_, u, e1, e2, _⟩ := rdN_took h0'
    rcases named_cases (rdN st 12) with ⟨h1, h2⟩ | ⟨h1, h2⟩ | ⟨h1, h2⟩
    · obtain ⟨b1, b2⟩ := nd_A hop h1 h2
      have h1' : rdN st 12 < 3 ∨ 9 < rdN st 12 := by simp [named] at h1; omega
      rw [b1, b2, nodeB_A (x := ⟨rdN st 12, 0, ⟨0, 0, []⟩⟩) h1 h2]
      refine ⟨h0, ?_, by rw [e1, e2]⟩
      unfold Node.ok
      rw [if_pos (by simp only; omega)]
      simp [Val.none]
    · obtain ⟨b1, b2⟩ := nd_B hop h1 h2
      rw [b2] at h
      obtain ⟨_, u', f1, f2, f3⟩ := rdN_took h
      have hb := rdN_bd (rdN' st 12) (belowOf (rdN st 12) - 1)
      have h1' : 3 ≤ rdN st 12 ∧ rdN st 12 ≤ 9 := by simpa [named] using h1
      have h2' : rdN st 12 < 6 := by simp [valued] at h2; omega
      rw [b1, b2, nodeB_B (x := ⟨rdN st 12, rdN (rdN' st 12) (belowOf (rdN st 12) - 1), ⟨0, 0, []⟩⟩) h1 h2]
      refine ⟨h0, ?_, by rw [e1, e2, f1, f2]; simp⟩
      unfold Node.ok
      simp only
      rw [if_neg (by omega)]
      unfold belowOf at *
      by_cases h34 : rdN st 12 = 3 ∨ rdN st 12 = 4
      · rw [if_pos h34] at *
        rw [if_pos h34]
        have h0n := hb.1
        have h1n : rdN (rdN' st 12) (16 - 1) < 16 := by omega
        simp [Val.none]
        exact ⟨h0n, h1n⟩
      · rw [if_neg h34] at *
        rw [if_neg h34, if_pos (by omega)]
        have h0n := hb.1
        have h1n : rdN (rdN' st 12) (8 - 1) < 8 := by omega
        simp [Val.none]
        exact ⟨h0n, h1n⟩
    · obtain ⟨b1, b2⟩ := nd_C hop h1 h2
      cases hok : (ndNode st).ok
      · rw [b2, hok, if_pos rfl] at h
        exact absurd h (rdF_bad _ (by decide))
      · rw [hok, if_neg (by decide)] at b2
        rw [b2] at h
        obtain ⟨g0, g1, g2⟩ := rdVal_took h
        obtain ⟨_, u', f1, f2, f3⟩ := rdN_took g0
        rw [b1, b2, nodeB_C (x := ⟨rdN st 12, rdN (rdN' st 12) (belowOf (rdN st 12) - 1), rdVal (rdN' (rdN' st 12) (belowOf (rdN st 12) - 1))⟩) h1 h2]
        exact ⟨h0, rfl, by rw [e1, e2, f1, f2, g2]; simp⟩
theorem rdNodes_put : ∀ (l : List Node) (r : List UInt8), (∀ x ∈ l, x.ok = true) → rdNodes l.length ⟨l.flatMap nodeB ++ r, 0⟩ = l ∧ rdNodes' l.length ⟨l.flatMap nodeB ++ r, 0⟩ = ⟨r, 0⟩
  | [], r, _ => ⟨rfl, rfl⟩
  | x :: l, r, h => by
    obtain ⟨h1, h2⟩ := rdNodes_put l r (fun y hy => h y (List.mem_cons_of_mem _ hy))
    obtain ⟨a1, a2⟩ := nd_put (h x (List.mem_cons_self ..)) (l.flatMap nodeB ++ r)
    rw [List.flatMap_cons, List.append_assoc, List.length_cons, rdNodes_ok rfl, rdNodes'_ok rfl, a1, a2, h1, h2]
    exact ⟨rfl, rfl⟩
theorem rdNodes_took : ∀ (k : Nat) (st : Rd), (rdNodes' k st).e = 0 → st.e = 0 ∧ (rdNodes k st).length = k ∧ st.s = (rdNodes k st).flatMap nodeB ++ (rdNodes' k st).s
  | 0, st, h => ⟨h, rfl, by simp [rdNodes, rdNodes']⟩
  | k + 1, st, h => by
    by_cases h0 : st.e = 0
    · rw [rdNodes'_ok h0] at h
      obtain ⟨h1, h2, h3⟩ := rdNodes_took k (ndD st) h
      obtain ⟨_, _, g3⟩ := nd_took h1
      rw [rdNodes_ok h0, rdNodes'_ok h0, List.flatMap_cons, List.length_cons, h2, List.append_assoc, ← h3]
      exact ⟨h0, rfl, g3⟩
    · rw [rdNodes'_bad h0] at h
      exact absurd h h0
/-- A filter that may be is read of its bytes. -/
theorem rdPred_put {l : List Node} (h : check l = 0) (r : List UInt8) : rdPred ⟨putB l ++ r, 0⟩ = l ∧ rdPred' ⟨putB l ++ r, 0⟩ = ⟨r, 0⟩ := by
  have hl := check_len h
  have hpos : 0 < l.length := by
    rcases Nat.eq_zero_or_pos l.length with h0 | h0
    · have : l = [] := List.eq_nil_of_length_eq_zero h0
      subst this
      exact absurd h (by decide)
    · exact h0
  obtain ⟨a1, a2⟩ := rdN_num (n := l.length) (most := 31) (l.flatMap nodeB ++ r) (by omega) (by omega) (by omega)
  obtain ⟨b1, b2⟩ := rdNodes_put l r (check_ok h)
  have hA : pdA ⟨num l.length ++ (l.flatMap nodeB ++ r), 0⟩ = ⟨l.flatMap nodeB ++ r, 0⟩ := by unfold pdA; rw [a1, a2, if_neg (by omega)]
  have hL : pdL ⟨num l.length ++ (l.flatMap nodeB ++ r), 0⟩ = l := by unfold pdL; rw [hA, a1, Int.toNat_natCast, b1]
  have hS : pdS ⟨num l.length ++ (l.flatMap nodeB ++ r), 0⟩ = ⟨r, 0⟩ := by unfold pdS; rw [hA, a1, Int.toNat_natCast, b2]
  rw [putB_ok h, List.append_assoc]
  obtain ⟨c1, c2⟩ := rdPred_ok (st := ⟨num l.length ++ (l.flatMap nodeB ++ r), 0⟩) (by rw [hS]) (by rw [hL]; exact h)
  rw [c1, c2, hL, hS]
  exact ⟨rfl, rfl⟩
/-- What was taken for a filter is its bytes, and it may be. -/
theorem rdPred_took {st : Rd} (h : (rdPred' st).e = 0) : check (rdPred st) = 0 ∧ st.s = putB (rdPred st) ++ (rdPred' st).s := by
  by_cases hS : (pdS st).e = 0
  · rcases check_cases (pdL_len st) with hc | hc | hc
    · obtain ⟨c1, c2⟩ := rdPred_ok hS hc
      rw [c1, c2]
      refine ⟨hc, ?_⟩
      have hop : rdN st 31 ≠ 0 := fun h0 => by
        unfold pdS pdA at hS
        rw [if_pos h0, h0] at hS
        exact rdF_bad _ (by decide) hS
      have hA : pdA st = rdN' st 31 := by unfold pdA; rw [if_neg hop]
      have hb := rdN_bd st 31
      obtain ⟨d1, d2, d3⟩ := rdNodes_took (rdN st 31).toNat (pdA st) hS
      rw [hA] at d1 d2 d3
      obtain ⟨_, u, e1, e2, _⟩ := rdN_took d1
      have hlen : ((pdL st).length : Int) = rdN st 31 := by unfold pdL; rw [hA, d2]; omega
      rw [putB_ok hc, hlen, e1, e2, List.append_assoc]
      congr 1
      rw [d3]
      unfold pdL pdS
      rw [hA]
    · rw [(rdPred_1 hS hc).2] at h
      exact absurd h (rdF_bad _ (by decide))
    · rw [(rdPred_5 hS hc).2] at h
      exact absurd h (rdF_bad _ (by decide))
  · rw [(rdPred_bad hS).2] at h
    exact absurd h hS
theorem rdPred_err {st : Rd} (h : st.e ≠ 0) : rdPred st = [] ∧ rdPred' st = st := by
  have hA : pdA st = st := by unfold pdA; rw [if_pos (rdN_err h).1, (rdN_err h).2, rdF_err h]
  have hS : pdS st = st := by unfold pdS; rw [hA]; exact rdNodes'_bad h _
  obtain ⟨a, b⟩ := rdPred_bad (st := st) (by rw [hS]; exact h)
  exact ⟨a, by rw [b, hS]⟩
/-! What is left only gets shorter. -/
theorem ndD_len (st : Rd) : (ndD st).s.length ≤ st.s.length := by
  have h1 := rdN'_len st 12
  have hA : (ndA st).s.length ≤ st.s.length := by
    unfold ndA; split
    · have := rdF_len (rdN' st 12) 3; omega
    · exact h1
  have hB : (ndB st).s.length ≤ st.s.length := by
    unfold ndB; split
    · have := rdN'_len (ndA st) (belowOf (rdN st 12) - 1); omega
    · exact hA
  have hC : (ndC st).s.length ≤ st.s.length := by
    unfold ndC; split
    · have := rdVal'_len (ndB st); omega
    · exact hB
  unfold ndD; split
  · have := rdF_len (ndC st) 3; omega
  · exact hC
theorem rdNodes'_len : ∀ k st, (rdNodes' k st).s.length ≤ st.s.length
  | 0, st => Nat.le_refl _
  | k + 1, st => by
    have := rdNodes'_len k (ndD st)
    have := ndD_len st
    unfold rdNodes'; split <;> omega
theorem rdPred'_len (st : Rd) : (rdPred' st).s.length ≤ st.s.length := by
  have h1 := rdN'_len st 31
  have hA : (pdA st).s.length ≤ st.s.length := by
    unfold pdA; split
    · have := rdF_len (rdN' st 31) 3; omega
    · exact h1
  have hS : (pdS st).s.length ≤ st.s.length := by
    have := rdNodes'_len (rdN st 31).toNat (pdA st)
    unfold pdS; omega
  unfold rdPred'
  split
  · split
    · exact hS
    · split <;> simpa using hS
  · exact hS
end Go.Proofs.YtjhndilflcigiaaDoor
