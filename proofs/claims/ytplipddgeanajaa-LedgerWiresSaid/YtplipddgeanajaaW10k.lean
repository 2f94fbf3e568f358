/-
  The walks of the reference's functions that tell which of two values, nodes, lists stands ahead.
-/
import Derived.Test.YtplipddgeanajaaW10j
namespace Go.Proofs.Ytplipddgeanajaa
open Go.RowKit

theorem cmpS_step (a b : List UInt8) (k : Nat) (ha : k < a.length) (hb : k < b.length) : cmpS (a.drop k) (b.drop k) = if cmpI a[k].toNat b[k].toNat ≠ 0 then cmpI a[k].toNat b[k].toNat else cmpS (a.drop (k + 1)) (b.drop (k + 1)) := by
  rw [List.drop_eq_getElem_cons ha, List.drop_eq_getElem_cons hb]
  show (if a[k].toNat < b[k].toNat then _ else _) = _
  by_cases h1 : a[k].toNat < b[k].toNat
  · rw [if_pos h1, cmpI_lt (by omega)]; rfl
  · rw [if_neg h1]
    by_cases h2 : b[k].toNat < a[k].toNat
    · rw [if_pos h2, cmpI_gt (by omega)]; rfl
    · rw [if_neg h2, cmpI_eq (by omega)]; rfl
theorem cmpS_end (a b : List UInt8) (k : Nat) (ha : k ≤ a.length) (hb : k ≤ b.length) (h : ¬ (k < a.length ∧ k < b.length)) : cmpS (a.drop k) (b.drop k) = cmpI a.length b.length := by
  by_cases h1 : k < a.length
  · have h2 : b.length ≤ k := by omega
    rw [List.drop_of_length_le h2, List.drop_eq_getElem_cons h1, cmpI_gt (by omega)]; rfl
  · rw [List.drop_of_length_le (by omega : a.length ≤ k)]
    by_cases h2 : k < b.length
    · rw [List.drop_eq_getElem_cons h2, cmpI_lt (by omega)]; rfl
    · rw [List.drop_of_length_le (by omega : b.length ≤ k), cmpI_eq (by omega)]; rfl
end Go.Proofs.Ytplipddgeanajaa
