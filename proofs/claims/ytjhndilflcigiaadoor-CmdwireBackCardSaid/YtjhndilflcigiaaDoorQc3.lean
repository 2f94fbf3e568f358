/-
  Lemmas (walks and plain laws), in one text.
-/
import Derived.Test.YtjhndilflcigiaaDoorQc2
import Derived.Test.YtjhndilflcigiaaDoorRows
import Derived.WalkKit
import Derived.WalkSpells
import Derived.WalkLawsBesides
import Derived.Lib.Hide
import Derived.Deep.QuietTactic
import Derived.BigQuiet
import Derived.Maps.AppendAt
import Derived.WalkSmall
import Derived.ProofKit
import Derived.OpenShut
import Derived.JoinedCond
import Derived.Deep.Slices
import Derived.Deep.Fields
import Derived.Carry
import Derived.Deep.AppendSrc
import Derived.Lib.AppendStr
import Derived.Laws.BytesArg
import Derived.Test.YtjhndilflcigiaaDoorProg
import Derived.Shelf.Spec.TrailingZeros
import Derived.RangeFuncNested
import Derived.RangeFuncBound
import Derived.RangeFuncCalls
import Derived.RangeFuncLeaves
import Derived.Shelf.Abstract
import Derived.Shelf.RegionOpen
import Derived.OwnWalkIn
import Derived.TacticsInMore
import Derived.LoopNIn
import Derived.LoopIn
import Derived.Test.YtjhndilflcigiaaDoorTie
import Derived.Lib.LaidTab
import Derived.LaidMore
import Derived.SevenTiedAt
import Derived.Test.YtjhndilflcigiaaDoorCards
import Derived.Laws.Tables
import Derived.Laws.Rows
import Derived.ChangeKeysEq
import Derived.Laws.StructEq
import Derived.Deep.CutBlock
import Derived.Deep.DeepCutAuto
import Derived.Laws.CopyOwn
import Derived.Outline
import Derived.IntWalk
import Derived.Lib.EndianBits
import Derived.StillTail
import Derived.Lib.AppendZeros
import Derived.Deep.Quiet
import Derived.Maps.Own
import Derived.WalkMore
namespace Go.Proofs.YtjhndilflcigiaaDoor
open Go.RowKit

/-- What is left, and the first error. -/
structure Rd where
  s : List UInt8
  e : Int
deriving DecidableEq

/-! A number off bytes: its error, its value, how many bytes it has. -/
def nxE : Nat → Bool → List UInt8 → Int
  | 0, _, _ => 3
  | _ + 1, _, [] => 2
  | f + 1, first, c :: s => if 128 ≤ c.toNat then nxE f false s else if c.toNat = 0 ∧ first = false then 3 else 0
def nxV : Nat → List UInt8 → Nat
  | 0, _ => 0
  | _ + 1, [] => 0
  | f + 1, c :: s => if 128 ≤ c.toNat then c.toNat % 128 + 128 * nxV f s else c.toNat
def nxK : Nat → List UInt8 → Nat
  | 0, _ => 0
  | _ + 1, [] => 0
  | f + 1, c :: s => if 128 ≤ c.toNat then nxK f s + 1 else 1
@[irreducible] def nErr (s : List UInt8) (most : Int) : Int := if nxE 6 true s = 0 then (if 1099511627776 < nxV 6 s ∨ most < (nxV 6 s : Int) then 4 else 0) else nxE 6 true s
theorem nErr_def (s : List UInt8) (most : Int) : nErr s most = if nxE 6 true s = 0 then (if 1099511627776 < nxV 6 s ∨ most < (nxV 6 s : Int) then 4 else 0) else nxE 6 true s := by unfold nErr; rfl
@[irreducible] def nVal (s : List UInt8) (most : Int) : Int := if nErr s most = 0 then (nxV 6 s : Int) else 0
@[irreducible] def nLen (s : List UInt8) (most : Int) : Nat := if nErr s most = 0 then nxK 6 s else 0
theorem nVal_ok {s : List UInt8} {most : Int} (h : nErr s most = 0) : nVal s most = nxV 6 s := by unfold nVal; rw [if_pos h]
theorem nVal_bad {s : List UInt8} {most : Int} (h : nErr s most ≠ 0) : nVal s most = 0 := by unfold nVal; rw [if_neg h]
theorem nLen_ok {s : List UInt8} {most : Int} (h : nErr s most = 0) : nLen s most = nxK 6 s := by unfold nLen; rw [if_pos h]
theorem nLen_bad {s : List UInt8} {most : Int} (h : nErr s most ≠ 0) : nLen s most = 0 := by unfold nLen; rw [if_neg h]
theorem nxK_le : ∀ f s, nxK f s ≤ s.length
  | 0, s => by simp [nxK]
  | f + 1, [] => by simp [nxK]
  | f + 1, c :: s => by
    have := nxK_le f s
    unfold nxK; split <;> simp <;> omega
theorem nLen_le (s : List UInt8) (most : Int) : nLen s most ≤ s.length := by
  have := nxK_le 6 s
  unfold nLen; split <;> omega
theorem nVal_bd (s : List UInt8) (most : Int) : 0 ≤ nVal s most ∧ nVal s most ≤ 1099511627776 ∧ (nVal s most ≤ most ∨ nVal s most = 0) := by
  unfold nVal
  split
  · rename_i h
    rw [nErr_def] at h
    split at h
    · split at h
      · cases h
      · omega
    · contradiction
  · omega

/-! What the readers' calls answer, and what is left then. -/
def rdN (st : Rd) (most : Int) : Int := if st.e = 0 then nVal st.s most else 0
def rdN' (st : Rd) (most : Int) : Rd := if st.e = 0 then ⟨st.s.drop (nLen st.s most), nErr st.s most⟩ else st
def tErr (s : List UInt8) (most : Int) : Int := if nErr s most = 0 then (if nxV 6 s ≤ s.length - nxK 6 s then 0 else 2) else nErr s most
def rdS (st : Rd) (most : Int) : List UInt8 := if st.e = 0 ∧ tErr st.s most = 0 then (st.s.drop (nxK 6 st.s)).take (nxV 6 st.s) else []
def rdS' (st : Rd) (most : Int) : Rd := if st.e = 0 then (if tErr st.s most = 0 then ⟨st.s.drop (nxK 6 st.s + nxV 6 st.s), 0⟩ else ⟨st.s, tErr st.s most⟩) else st
def rdF (st : Rd) (e : Int) : Rd := if st.e = 0 then ⟨st.s, e⟩ else st
def rdEnd (st : Rd) : Int := if st.e = 0 ∧ st.s ≠ [] then 3 else st.e
theorem rdN_bd (st : Rd) (most : Int) : 0 ≤ rdN st most ∧ rdN st most ≤ 1099511627776 ∧ (rdN st most ≤ most ∨ rdN st most = 0) := by
  have := nVal_bd st.s most
  unfold rdN; split <;> omega
theorem rdS_len (st : Rd) (most : Int) : ((rdS st most).length : Int) ≤ 1099511627776 ∧ (((rdS st most).length : Int) ≤ most ∨ rdS st most = []) ∧ (rdS st most).length ≤ st.s.length := by
  unfold rdS
  split
  · rename_i h
    have hn : nErr st.s most = 0 := by
      have := h.2
      unfold tErr at this
      split at this
      · assumption
      · contradiction
    have hv := nVal_bd st.s most
    rw [nVal_ok hn] at hv
    rw [List.length_take, List.length_drop]
    refine ⟨by omega, ?_, by omega⟩
    rcases hv.2.2 with h | h
    · left; omega
    · right; rw [show nxV 6 st.s = 0 by omega]; rfl
  · simp
theorem rdN_err {st : Rd} {most : Int} (h : st.e ≠ 0) : rdN st most = 0 ∧ rdN' st most = st := by unfold rdN rdN'; rw [if_neg h, if_neg h]; exact ⟨rfl, rfl⟩
theorem rdS_err {st : Rd} {most : Int} (h : st.e ≠ 0) : rdS st most = [] ∧ rdS' st most = st := by unfold rdS rdS'; rw [if_neg (fun k => h k.1), if_neg h]; exact ⟨rfl, rfl⟩
theorem rdN_err' {st : Rd} {most : Int} (h : (rdN' st most).e ≠ 0) : rdN st most = 0 := by
  unfold rdN
  split
  · rename_i h0
    unfold rdN' at h
    rw [if_pos h0] at h
    exact nVal_bad h
  · rfl
theorem rdN'_len (st : Rd) (most : Int) : (rdN' st most).s.length ≤ st.s.length := by unfold rdN'; split <;> simp
theorem rdS'_len (st : Rd) (most : Int) : (rdS' st most).s.length ≤ st.s.length := by unfold rdS'; split <;> (try split) <;> simp
theorem rdF_len (st : Rd) (e : Int) : (rdF st e).s.length ≤ st.s.length := by unfold rdF; split <;> simp
theorem rdF_s (st : Rd) (e : Int) : (rdF st e).s = st.s := by unfold rdF; split <;> rfl
theorem rdF_err {st : Rd} {e : Int} (h : st.e ≠ 0) : rdF st e = st := by unfold rdF; rw [if_neg h]
theorem rdF_ok {st : Rd} {e : Int} (h : st.e = 0) : rdF st e = ⟨st.s, e⟩ := by unfold rdF; rw [if_pos h]


/-! A number's bytes are read as it. -/
theorem nx_numF : ∀ f v b (r : List UInt8), 1 ≤ f → v < 128 ^ f → (b = true ∨ 0 < v) → nxE f b (numF f v ++ r) = 0 ∧ nxV f (numF f v ++ r) = v ∧ nxK f (numF f v ++ r) = (numF f v).length
  | 0, _, _, _, h, _, _ => by omega
  | f + 1, v, b, r, _, hv, hb => by
    by_cases hlt : v < 128
    · rw [numF_lt hlt]
      have e : (UInt8.ofNat v).toNat = v := by simp; omega
      simp only [List.cons_append, List.nil_append, nxE, nxV, nxK, e]
      have hv : ¬ 128 ≤ v := by omega
      simp only [if_neg hv]
      refine ⟨?_, trivial, rfl⟩
      rw [if_neg]
      rintro ⟨h1, h2⟩
      rcases hb with hb | hb
      · rw [hb] at h2; cases h2
      · omega
    · rw [numF_ge hlt]
      have hf : 1 ≤ f := by
        rcases Nat.eq_zero_or_pos f with rfl | h
        · rw [Nat.zero_add, Nat.pow_one] at hv; omega
        · exact h
      have hd : v / 128 < 128 ^ f := Nat.div_lt_of_lt_mul (by rw [Nat.pow_succ, Nat.mul_comm] at hv; exact hv)
      obtain ⟨h1, h2, h3⟩ := nx_numF f (v / 128) false r hf hd (.inr (by omega))
      have e : (UInt8.ofNat (v % 128 + 128)).toNat = v % 128 + 128 := by simp; omega
      simp only [List.cons_append, nxE, nxV, nxK, e, List.length_cons]
      rw [if_pos (by omega), if_pos (by omega), if_pos (by omega), h1, h2, h3]
      exact ⟨rfl, by omega, rfl⟩
theorem nx_num (n : Int) (r : List UInt8) : nxE 6 true (num n ++ r) = 0 ∧ nxV 6 (num n ++ r) = clampN n ∧ nxK 6 (num n ++ r) = (num n).length := by
  rw [num_def]
  exact nx_numF 6 (clampN n) true r (by omega) (Nat.lt_of_le_of_lt (clampN_le n) (by decide)) (.inl rfl)
theorem nErr_num {n most : Int} (r : List UInt8) (h : (clampN n : Int) ≤ most) : nErr (num n ++ r) most = 0 := by
  obtain ⟨h1, h2, _⟩ := nx_num n r
  have := clampN_le n
  rw [nErr_def, if_pos h1, h2, if_neg (by omega)]
/-- A number that may be is read of its bytes. -/
theorem rdN_num {n most : Int} (r : List UInt8) (h0 : 0 ≤ n) (h1 : n ≤ 1099511627776) (h : n ≤ most) : rdN ⟨num n ++ r, 0⟩ most = n ∧ rdN' ⟨num n ++ r, 0⟩ most = ⟨r, 0⟩ := by
  have hc : (clampN n : Int) = n := by rw [clampN_int]; omega
  have he := nErr_num r (show (clampN n : Int) ≤ most by omega)
  obtain ⟨_, h2, h3⟩ := nx_num n r
  unfold rdN rdN'
  rw [if_pos rfl, if_pos rfl]
  simp only
  rw [nVal_ok he, nLen_ok he, he, h2, h3, hc]
  exact ⟨rfl, by simp⟩
theorem rdS_str {s : List UInt8} {most : Int} (r : List UInt8) (h1 : s.length ≤ 1099511627776) (h : (s.length : Int) ≤ most) : rdS ⟨strB s ++ r, 0⟩ most = s ∧ rdS' ⟨strB s ++ r, 0⟩ most = ⟨r, 0⟩ := by
  have hc : clampN (s.length : Int) = s.length := by have := clampN_int (s.length : Int); omega
  have e : strB s ++ r = num s.length ++ (s ++ r) := by unfold strB; rw [List.append_assoc]
  have he := nErr_num (n := s.length) (most := most) (s ++ r) (by omega)
  obtain ⟨_, h2, h3⟩ := nx_num s.length (s ++ r)
  have ht : tErr (num s.length ++ (s ++ r)) most = 0 := by
    unfold tErr
    rw [if_pos he, h2, h3, if_pos (by simp only [List.length_append]; omega)]
  unfold rdS rdS'
  rw [e]
  simp only [ht, and_self, if_true, h2, h3, hc]
  refine ⟨by simp, ?_⟩
  rw [← List.drop_drop]; simp

/-! What is read as a number has just a number's bytes. -/
theorem numF_nx : ∀ f b s, nxE f b s = 0 → s.take (nxK f s) = numF f (nxV f s) ∧ (b = false → 0 < nxV f s) ∧ 1 ≤ nxK f s
  | 0, _, _, h => by simp [nxE] at h
  | f + 1, _, [], h => by simp [nxE] at h
  | f + 1, b, c :: s, h => by
    have hc := c.toNat_lt
    unfold nxE at h
    by_cases h1 : 128 ≤ c.toNat
    · rw [if_pos h1] at h
      obtain ⟨h2, h3, _⟩ := numF_nx f false s h
      have h3 := h3 rfl
      have e1 : nxV (f + 1) (c :: s) = c.toNat % 128 + 128 * nxV f s := by rw [nxV, if_pos h1]
      have e2 : nxK (f + 1) (c :: s) = nxK f s + 1 := by rw [nxK, if_pos h1]
      rw [e1, e2, numF_ge (by omega), List.take_succ_cons, h2]
      refine ⟨?_, by omega, by omega⟩
      rw [show (c.toNat % 128 + 128 * nxV f s) / 128 = nxV f s by omega, show (c.toNat % 128 + 128 * nxV f s) % 128 + 128 = c.toNat by omega]
      simp
    · rw [if_neg h1] at h
      have e1 : nxV (f + 1) (c :: s) = c.toNat := by rw [nxV, if_neg h1]
      have e2 : nxK (f + 1) (c :: s) = 1 := by rw [nxK, if_neg h1]
      rw [e1, e2, numF_lt (by omega)]
      refine ⟨by simp, fun hb => ?_, by omega⟩
      rcases Nat.eq_zero_or_pos c.toNat with h0 | h0
      · rw [if_pos ⟨h0, hb⟩] at h; cases h
      · exact h0
theorem nErr_ok {s : List UInt8} {most : Int} (h : nErr s most = 0) : nxE 6 true s = 0 ∧ nxV 6 s ≤ 1099511627776 ∧ (nxV 6 s : Int) ≤ most := by
  rw [nErr_def] at h
  split at h
  · rename_i h1
    split at h
    · cases h
    · exact ⟨h1, by omega, by omega⟩
  · contradiction
theorem num_nx {s : List UInt8} {most : Int} (h : nErr s most = 0) : num (nxV 6 s : Int) = s.take (nxK 6 s) := by
  obtain ⟨h1, h2, h3⟩ := nErr_ok h
  rw [num_def, show clampN (nxV 6 s : Int) = nxV 6 s by have := clampN_int (nxV 6 s : Int); omega]
  exact (numF_nx 6 true s h1).1.symm
theorem rdN_took {st : Rd} {most : Int} (h : (rdN' st most).e = 0) : st.e = 0 ∧ ∃ u, st.s = u ++ (rdN' st most).s ∧ u = num (rdN st most) ∧ rdN st most ≤ most := by
  unfold rdN' rdN at *
  by_cases h0 : st.e = 0
  · simp only [if_pos h0] at h ⊢
    rw [nVal_ok h, nLen_ok h]
    exact ⟨h0, _, (List.take_append_drop (nxK 6 st.s) st.s).symm, (num_nx h).symm, (nErr_ok h).2.2⟩
  · rw [if_neg h0] at h
    exact absurd h h0
theorem rdS_took {st : Rd} {most : Int} (h : (rdS' st most).e = 0) : st.e = 0 ∧ ∃ u, st.s = u ++ (rdS' st most).s ∧ u = strB (rdS st most) ∧ ((rdS st most).length : Int) ≤ most := by
  unfold rdS' rdS at *
  by_cases h0 : st.e = 0
  · simp only [if_pos h0] at h ⊢
    by_cases ht : tErr st.s most = 0
    · rw [if_pos ht, if_pos ⟨h0, ht⟩]
      have ht' := ht
      unfold tErr at ht'
      split at ht'
      · rename_i hn
        split at ht'
        · rename_i hle
          have hlen : ((st.s.drop (nxK 6 st.s)).take (nxV 6 st.s)).length = nxV 6 st.s := by rw [List.length_take, List.length_drop]; omega
          refine ⟨h0, st.s.take (nxK 6 st.s) ++ (st.s.drop (nxK 6 st.s)).take (nxV 6 st.s), ?_, ?_, ?_⟩
          · simp only
            rw [← List.drop_drop, List.append_assoc, List.take_append_drop, List.take_append_drop]
          · unfold strB
            rw [hlen, num_nx hn]
          · rw [hlen]; exact (nErr_ok hn).2.2
        · cases ht'
      · contradiction
    · rw [if_neg ht] at h
      exact absurd h ht
  · rw [if_neg h0] at h
    exact absurd h h0

/-! How the loops over a number's bytes go. -/
def Peek (s : List UInt8) (k acc : Nat) : Prop :=
  k ≤ 6 ∧ k ≤ s.length ∧ acc < 128 ^ k ∧ nxE 6 true s = nxE (6 - k) (decide (k = 0)) (s.drop k) ∧ nxV 6 s = acc + 128 ^ k * nxV (6 - k) (s.drop k) ∧ nxK 6 s = k + nxK (6 - k) (s.drop k) ∧
    ∀ j c, j < k → s[j]? = some c → 128 ≤ c.toNat
section
variable {s : List UInt8} {k acc : Nat}
theorem Peek.start (s : List UInt8) : Peek s 0 0 := ⟨by omega, by omega, by simp, by simp, by simp, by simp, fun j c h => by omega⟩
theorem Peek.next (h : Peek s k acc) (hk : k < 6) (hl : k < s.length) (hc : 128 ≤ s[k].toNat) : Peek s (k + 1) (acc + s[k].toNat % 128 * 128 ^ k) := by
  obtain ⟨_, _, h3, h4, h5, h6, h7⟩ := h
  rw [List.drop_eq_getElem_cons hl, show 6 - k = (6 - (k + 1)) + 1 by omega] at h4 h5 h6
  rw [nxE, if_pos hc] at h4
  rw [nxV, if_pos hc] at h5
  rw [nxK, if_pos hc] at h6
  have hm : s[k].toNat % 128 < 128 := Nat.mod_lt _ (by omega)
  refine ⟨by omega, by omega, ?_, ?_, ?_, by omega, ?_⟩
  · rw [Nat.pow_succ]
    have : s[k].toNat % 128 * 128 ^ k ≤ 127 * 128 ^ k := Nat.mul_le_mul_right _ (by omega)
    omega
  · rw [h4]; simp
  · rw [h5, Nat.mul_add, Nat.pow_succ, Nat.mul_comm (128 ^ k) (s[k].toNat % 128), Nat.mul_assoc]; omega
  · intro j c hj hjc
    rcases Nat.lt_or_ge j k with hlt | hge
    · exact h7 j c hlt hjc
    · obtain rfl : j = k := by omega
      rw [List.getElem?_eq_getElem hl] at hjc
      injection hjc with hjc
      rw [← hjc]; exact hc
theorem Peek.full (h : Peek s 6 acc) : nxE 6 true s = 3 := by rw [h.2.2.2.1]; rfl
theorem Peek.short (h : Peek s k acc) (hk : k < 6) (hl : k = s.length) : nxE 6 true s = 2 := by
  rw [h.2.2.2.1, hl, List.drop_length, show 6 - s.length = (5 - s.length) + 1 by omega, nxE]
theorem Peek.zero (h : Peek s k acc) (hk : k < 6) (hl : k < s.length) (hc : s[k].toNat = 0) (h0 : 0 < k) : nxE 6 true s = 3 := by
  rw [h.2.2.2.1, List.drop_eq_getElem_cons hl, show 6 - k = (6 - (k + 1)) + 1 by omega, nxE, if_neg (by omega), if_pos ⟨hc, by simp; omega⟩]
theorem Peek.done (h : Peek s k acc) (hk : k < 6) (hl : k < s.length) (hc : s[k].toNat < 128) (h0 : s[k].toNat ≠ 0 ∨ k = 0) : nxE 6 true s = 0 ∧ nxV 6 s = acc + s[k].toNat * 128 ^ k ∧ nxK 6 s = k + 1 := by
  obtain ⟨_, _, h3, h4, h5, h6, h7⟩ := h
  rw [List.drop_eq_getElem_cons hl, show 6 - k = (6 - (k + 1)) + 1 by omega] at h4 h5 h6
  rw [nxE, if_neg (by omega)] at h4
  rw [nxV, if_neg (by omega)] at h5
  rw [nxK, if_neg (by omega)] at h6
  refine ⟨?_, by rw [h5, Nat.mul_comm], h6⟩
  rw [h4, if_neg]
  rintro ⟨h1, h2⟩
  rcases h0 with h0 | h0
  · exact h0 h1
  · simp [h0] at h2
end
end Go.Proofs.YtjhndilflcigiaaDoor
namespace Go.Proofs.YtjhndilflcigiaaDoor
open Go.RowKit

/-! Worlds in which, below a block number, one block alone may have turned. -/
structure Kept (p : Option Nat) (B : Nat) (w w' : World) : Prop where
  os : w'.os = w.os
  tape : w'.tape = w.tape
  output : w'.output = w.output
  size : w.heap.size ≤ w'.heap.size
  block : ∀ k, k < B → p ≠ some k → w'.heap[k]? = w.heap[k]?
section
variable {p : Option Nat} {B B' : Nat} {a b c w w' : World}
theorem Kept.refl (p : Option Nat) (B : Nat) (w : World) : Kept p B w w := ⟨rfl, rfl, rfl, Nat.le_refl _, fun _ _ _ => rfl⟩
theorem Kept.of_below (h : Below B w w') : Kept p B w w' := ⟨h.os, h.tape, h.output, h.size, fun k hk _ => h.block k hk⟩
theorem Kept.trans (h : Kept p B a b) (k : Kept p B b c) : Kept p B a c := ⟨k.os.trans h.os, k.tape.trans h.tape, k.output.trans h.output, Nat.le_trans h.size k.size, fun i hi hp => (k.block i hi hp).trans (h.block i hi hp)⟩
theorem Kept.mono (h : Kept p B w w') (hB : B' ≤ B) : Kept p B' w w' := ⟨h.os, h.tape, h.output, h.size, fun k hk hp => h.block k (by omega) hp⟩
theorem Kept.below (h : Kept p B w w') (hB : B' ≤ B) (hp : ∀ g, p = some g → B' ≤ g) : Below B' w w' := ⟨h.os, h.tape, h.output, h.size, fun k hk => h.block k (by omega) (fun e => by have := hp k e; omega)⟩
theorem Kept.alloc (h : Kept p B a w) (hB : B ≤ w.heap.size) (o : Obj) : Kept p B a (w.alloc o) := h.trans (.of_below ((Below.refl _ _).alloc hB o))
theorem Kept.drew (h : Kept p B a w) : Kept p B a w.drew := ⟨h.os, h.tape, h.output, h.size, h.block⟩
theorem Kept.setCell (h : Kept p B a w) {q : Addr} (hq : B ≤ q.block ∨ p = some q.block) (u : Value) : Kept p B a (w.setCell q u) :=
  h.trans ⟨rfl, rfl, rfl, by simp [World.setCell], fun k hk hp => Below.heap_setCell _ _ _ _ (fun e => by
    subst e
    rcases hq with h | h
    · omega
    · exact hp h)⟩
theorem Kept.then_below (h : Kept p B a w) (k : Below w.heap.size w w') (hB : B ≤ w.heap.size) : Kept p B a w' := h.trans (.of_below (k.mono hB))
theorem Kept.then_kept (h : Kept p B a w) (k : Kept p w.heap.size w w') (hB : B ≤ w.heap.size) : Kept p B a w' := h.trans (k.mono hB)
theorem Kept.cell (h : Kept p B w w') {q : Addr} (hq : q.block < B) (hp : p ≠ some q.block) : w'.cell? q = w.cell? q := World.cell?_of_block (w := w) (h.block q.block hq hp)
theorem own_kept {base : Nat} {e : TypeId} {size n : Nat} {v : Value} {xs : List Value} (h : w.ownsRow base e size v n xs) (k : Kept p w.heap.size w w') (hp : ∀ g, p = some g → g < base) : w'.ownsRow base e size v n xs := by
  obtain ⟨h1, h2⟩ := h
  refine ⟨h1, ?_⟩
  rcases h2 with h2 | ⟨g, cap, cur, hv, hg, hh, r⟩
  · exact .inl h2
  · exact .inr ⟨g, cap, cur, hv, hg, by rw [k.block g (by
      rcases Nat.lt_or_ge g w.heap.size with hlt | hge
      · exact hlt
      · rw [Array.getElem?_eq_none hge] at hh; cases hh) (fun e => by have := hp g e; omega)]; exact hh, r⟩
end

/-! A block that is known whole. -/
def Blk (w : World) (g : Nat) (cs : Array Value) : Prop := ∃ t, w.heap[g]? = some (.cells cs t (0, 0))
section
variable {w w' : World} {g : Nat} {cs : Array Value}
theorem Blk.lt (h : Blk w g cs) : g < w.heap.size := by
  obtain ⟨t, h⟩ := h
  rcases Nat.lt_or_ge g w.heap.size with hlt | hge
  · exact hlt
  · rw [Array.getElem?_eq_none hge] at h; cases h
theorem Blk.cell (h : Blk w g cs) {i : Nat} {v : Value} (hv : cs[i]? = some v) : w.cell? ⟨g, i, none⟩ = some v := by
  obtain ⟨t, h⟩ := h
  simp [World.cell?, h, hv]
theorem Blk.frozen (h : Blk w g cs) (i : Nat) : w.frozen? ⟨g, i, none⟩ = false := by
  obtain ⟨t, h⟩ := h
  simp [World.frozen?, h]
theorem Blk.new (w : World) (t : TypeId) (cs : Array Value) : Blk (w.alloc (.cells cs t)) w.heap.size cs := ⟨t, heap_alloc_new w _⟩
theorem Blk.kept {p : Option Nat} {B : Nat} (h : Blk w g cs) (k : Kept p B w w') (hg : g < B) (hp : p ≠ some g) : Blk w' g cs := by
  obtain ⟨t, h⟩ := h
  exact ⟨t, (k.block g hg hp).trans h⟩
theorem Blk.below {B : Nat} (h : Blk w g cs) (k : Below B w w') (hg : g < B) : Blk w' g cs := by
  obtain ⟨t, h⟩ := h
  exact ⟨t, (k.block g hg).trans h⟩
theorem Blk.store (h : Blk w g cs) (i : Nat) (u : Value) : Blk (w.setCell ⟨g, i, none⟩ u) g (cs.setIfInBounds i u) := by
  obtain ⟨t, h⟩ := h
  exact ⟨t, by simp [World.setCell, Array.getElem?_modify, h]⟩
theorem Blk.far (h : Blk w g cs) {q : Addr} (hq : g ≠ q.block) (u : Value) : Blk (w.setCell q u) g cs := by
  obtain ⟨t, h⟩ := h
  exact ⟨t, (Below.heap_setCell w q u g hq).trans h⟩
end

/-! The readers in memory. -/
/-- The program's reader at block g: the bytes B, the place, the error. -/
def RdA (w : World) (g : Nat) (A : Option Addr) (c : Nat) (B : List UInt8) (pos : Nat) (e : Int) : Prop :=
  Blk w g #[.slice A B.length c, .int .i64 pos, .int .i64 e] ∧ pos ≤ B.length ∧ B.length ≤ c ∧ c ≤ 9223372036854775807 ∧ B.length ≤ 4294967296 ∧ (B = [] ∨ ∃ b off, A = some ⟨b, off, none⟩ ∧ b < g ∧ Row 1 bc w b off B)
/-- The program's reader; none: the nil one. -/
def RdP (w : World) (p : Option Nat) (st : Rd) : Prop :=
  (p = none ∧ st = ⟨[], 1⟩) ∨ ∃ g A c B pos, p = some g ∧ RdA w g A c B pos st.e ∧ st.s = B.drop pos
/-- The reference's reader at block h. -/
def RdR (w : World) (h : Nat) (st : Rd) : Prop := Blk w h #[.string (str st.s), .int .i64 st.e] ∧ st.s.length ≤ 4294967296
def ptr (p : Option Nat) : Value := .pointer (p.map fun g => ⟨g, 0, none⟩)
theorem ptr_none : ptr none = .pointer none := rfl
theorem ptr_some (g : Nat) : ptr (some g) = .pointer (some ⟨g, 0, none⟩) := rfl
section
variable {w w' : World} {g h : Nat} {A : Option Addr} {c pos : Nat} {B : List UInt8} {e : Int} {p q : Option Nat} {st st' : Rd}
theorem RdA.kept (r : RdA w g A c B pos e) (k : Kept q w.heap.size w w') (hq : ∀ h, q = some h → g < h) : RdA w' g A c B pos e := by
  obtain ⟨h1, h2, h3, h4, h5, h6⟩ := r
  refine ⟨h1.kept k h1.lt (fun e => by have := hq g e; omega), h2, h3, h4, h5, h6.imp id fun ⟨b, off, hA, hb, hr⟩ => ⟨b, off, hA, hb, ?_⟩⟩
  have := h1.lt
  exact hr.keep fun o => k.cell (by show b < _; omega) (fun e => by have := hq b e; omega)
theorem RdA.store1 (r : RdA w g A c B pos e) (pos' : Nat) (hp : pos' ≤ B.length) : RdA (w.setCell ⟨g, 1, none⟩ (.int .i64 pos')) g A c B pos' e := by
  obtain ⟨h1, h2, h3, h4, h5, h6⟩ := r
  refine ⟨by simpa using h1.store 1 (.int .i64 pos'), hp, h3, h4, h5, h6.imp id fun ⟨b, off, hA, hb, hr⟩ => ⟨b, off, hA, hb, ?_⟩⟩
  exact hr.keep fun o => World.cell?_setCell_other _ _ _ _ (fun e => by injection e; omega)
theorem RdA.store2 (r : RdA w g A c B pos e) (e' : Int) : RdA (w.setCell ⟨g, 2, none⟩ (.int .i64 e')) g A c B pos e' := by
  obtain ⟨h1, h2, h3, h4, h5, h6⟩ := r
  refine ⟨by simpa using h1.store 2 (.int .i64 e'), h2, h3, h4, h5, h6.imp id fun ⟨b, off, hA, hb, hr⟩ => ⟨b, off, hA, hb, ?_⟩⟩
  exact hr.keep fun o => World.cell?_setCell_other _ _ _ _ (fun e => by injection e; omega)
theorem RdP.kept (r : RdP w p st) (k : Kept q w.heap.size w w') (hq : ∀ g h, p = some g → q = some h → g < h) : RdP w' p st :=
  r.imp id fun ⟨g, A, c, B, pos, hp, ha, hs⟩ => ⟨g, A, c, B, pos, hp, ha.kept k (fun h => hq g h hp), hs⟩
theorem RdP.below (r : RdP w p st) (k : Below w.heap.size w w') : RdP w' p st := r.kept (q := none) (.of_below k) (fun _ _ _ h => by cases h)
theorem RdP.lt (r : RdP w p st) (hg : p = some g) : g < w.heap.size := by
  rcases r with ⟨rfl, _⟩ | ⟨g', A, c, B, pos, hp, ha, _⟩
  · cases hg
  · rw [hp] at hg; injection hg with hg; subst hg; exact ha.1.lt
theorem RdR.kept (r : RdR w h st) (k : Kept q w.heap.size w w') (hq : q ≠ some h) : RdR w' h st := ⟨r.1.kept k r.1.lt hq, r.2⟩
theorem RdR.below (r : RdR w h st) (k : Below w.heap.size w w') : RdR w' h st := r.kept (q := none) (.of_below k) (by simp)
theorem RdR.lt (r : RdR w h st) : h < w.heap.size := r.1.lt
theorem RdP.len (r : RdP w p st) : st.s.length ≤ 4294967296 := by
  rcases r with ⟨rfl, rfl⟩ | ⟨g, A, c, B, pos, hp, ha, hs⟩
  · simp
  · rw [hs]; have := ha.2.2.2.2.1; simp; omega
end

/-! The ends of the readers' calls. -/
/-- The call hands back v, the program's reader is then st'; nothing else below the heap's end has turned. -/
def RetP (p : Option Nat) (st' : Rd) (w : World) (v : Value) (e : Ending) (w' : World) : Prop := e = .returned v ∧ RdP w' p st' ∧ Kept p w.heap.size w w'
/-- A reader of a copy of bytes. -/
def RetNew (w : World) (l : List UInt8) (e : Ending) (w' : World) : Prop := ∃ g, e = .returned (ptr (some g)) ∧ w.heap.size ≤ g ∧ RdP w' (some g) ⟨l, 0⟩ ∧ Below w.heap.size w w'
end Go.Proofs.YtjhndilflcigiaaDoor
