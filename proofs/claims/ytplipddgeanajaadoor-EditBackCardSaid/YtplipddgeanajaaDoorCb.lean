/-
  The bytes of cards and patches, plain; which fields a card has, which a mask. No program is looked at here.
-/
import Derived.Test.YtplipddgeanajaaDoorCrd
import Derived.Test.YtplipddgeanajaaDoorW05a
import Derived.Test.YtplipddgeanajaaDoorW06b
import Derived.Test.YtplipddgeanajaaDoorW08a
namespace Go.Proofs.YtplipddgeanajaaDoor
open Go.RowKit

abbrev vz : Val := ⟨0, 0, []⟩
abbrev f8z : List Val := List.replicate 8 vz
abbrev cz : Card := ⟨0, 0, 0, f8z⟩
abbrev pz : Patch := ⟨0, 0, f8z⟩
def at8 (f : List Val) (k : Nat) : Val := f.getD k vz
theorem at8_eq {f : List Val} {k : Nat} (h : k < f.length) : at8 f k = f[k] := by simp [at8, h]
abbrev ints (l : List Nat) : List Int := l.map Int.ofNat
/-- The fields below k that hold something. -/
def kindsTo (f : List Val) (k : Nat) : List Nat := (List.range k).filter fun i => decide ((at8 f i).kind ≠ 0)
def bitsTo (m k : Nat) : List Nat := (List.range k).filter m.testBit
def bodyF (f : List Val) (l : List Nat) : List UInt8 := l.flatMap fun k => valB (at8 f k)
theorem idx8_bits (m : Nat) : idx8 m = ints (bitsTo m 8) := rfl
theorem kindsTo_yes {f : List Val} {k : Nat} (h : (at8 f k).kind ≠ 0) : kindsTo f (k + 1) = kindsTo f k ++ [k] := by unfold kindsTo; rw [List.range_succ, List.filter_append]; simp [h]
theorem kindsTo_no {f : List Val} {k : Nat} (h : (at8 f k).kind = 0) : kindsTo f (k + 1) = kindsTo f k := by unfold kindsTo; rw [List.range_succ, List.filter_append]; simp [h]
theorem bitsTo_yes {m k : Nat} (h : m.testBit k = true) : bitsTo m (k + 1) = bitsTo m k ++ [k] := by unfold bitsTo; rw [List.range_succ, List.filter_append]; simp [h]
theorem bitsTo_no {m k : Nat} (h : m.testBit k = false) : bitsTo m (k + 1) = bitsTo m k := by unfold bitsTo; rw [List.range_succ, List.filter_append]; simp [h]
theorem kindsTo_len (f : List Val) (k : Nat) : (kindsTo f k).length ≤ k := by have := List.length_filter_le (fun i => decide ((at8 f i).kind ≠ 0)) (List.range k); simpa [kindsTo] using this
theorem bitsTo_len (m k : Nat) : (bitsTo m k).length ≤ k := by have := List.length_filter_le m.testBit (List.range k); simpa [bitsTo] using this
theorem kindsTo_bd {f : List Val} {k n : Nat} (h : n ∈ kindsTo f k) : n < k := List.mem_range.1 (List.mem_filter.1 h).1
theorem bitsTo_bd {m k n : Nat} (h : n ∈ bitsTo m k) : n < k := List.mem_range.1 (List.mem_filter.1 h).1
theorem bodyF_snoc (f : List Val) (l : List Nat) (k : Nat) : bodyF f (l ++ [k]) = bodyF f l ++ valB (at8 f k) := by unfold bodyF; rw [List.flatMap_append]; simp
theorem bodyF_len (f : List Val) : ∀ l : List Nat, (bodyF f l).length ≤ l.length * 38
  | [] => by simp [bodyF]
  | k :: l => by
    have h1 := bodyF_len f l
    have h2 := valB_len (at8 f k)
    unfold bodyF at *
    rw [List.flatMap_cons, List.length_append, List.length_cons]
    omega
theorem or_two {m k : Nat} (h : m < 2 ^ k) : m ||| 2 ^ k = m + 2 ^ k := by
  have := Nat.two_pow_add_eq_or_of_lt h 1
  rw [Nat.mul_one] at this
  rw [Nat.or_comm, ← this, Nat.add_comm]
/-- The mask of the fields below k. -/
def maskTo (f : List Val) (k : Nat) : Nat := maskOf (ints (kindsTo f k))
theorem maskTo_yes {f : List Val} {k : Nat} (hk : k ≤ 31) (h : (at8 f k).kind ≠ 0) : maskTo f (k + 1) = maskTo f k ||| 2 ^ k := by
  unfold maskTo
  rw [kindsTo_yes h]
  show maskOf (List.map Int.ofNat (kindsTo f k ++ [k])) = _
  rw [List.map_append]
  show maskOf (_ ++ [(k : Int)]) = _
  rw [maskOf_snoc, bitN_nat hk]
theorem maskTo_no {f : List Val} {k : Nat} (h : (at8 f k).kind = 0) : maskTo f (k + 1) = maskTo f k := by unfold maskTo; rw [kindsTo_no h]
theorem maskTo_lt (f : List Val) : ∀ k, k ≤ 32 → maskTo f k < 2 ^ k
  | 0, _ => by show 0 < 1; omega
  | k + 1, h => by
    have ih := maskTo_lt f k (by omega)
    rw [Nat.pow_succ]
    by_cases hk : (at8 f k).kind = 0
    · rw [maskTo_no hk]; omega
    · rw [maskTo_yes (by omega) hk, or_two ih]; omega
theorem maskTo_with {f : List Val} {k : Nat} (hk : k ≤ 31) (h : (at8 f k).kind ≠ 0) : withN (maskTo f k) k = maskTo f (k + 1) := by
  have hl := maskTo_lt f k (by omega)
  rw [maskTo_yes hk h, or_two hl]
  unfold withN
  rw [Nat.testBit_lt_two_pow hl]
  rfl
theorem maskTo_255 (f : List Val) : maskTo f 8 &&& 255 = maskTo f 8 := by
  have := maskTo_lt f 8 (by omega)
  have e : maskTo f 8 &&& (2 ^ 8 - 1) = maskTo f 8 % 2 ^ 8 := Nat.and_two_pow_sub_one_eq_mod _ _
  rw [show (255 : Nat) = 2 ^ 8 - 1 from rfl, e, Nat.mod_eq_of_lt this]
theorem Card.ok_bds {c : Card} (h : c.ok = true) : 1 ≤ c.id ∧ c.id < 1073741824 ∧ 1 ≤ c.ver ∧ c.ver ≤ 1099511627776 ∧ c.lab < 65536 ∧ vals c.f = true := by
  unfold Card.ok at h
  simp only [Bool.and_eq_true, decide_eq_true_eq] at h
  obtain ⟨⟨⟨⟨⟨h1, h2⟩, h3⟩, h4⟩, h5⟩, h6⟩ := h
  exact ⟨h1, h2, h3, h4, h5, h6⟩
def cardB (c : Card) : List UInt8 := if c.ok then num c.id ++ num c.ver ++ num c.lab ++ num (maskTo c.f 8) ++ bodyF c.f (kindsTo c.f 8) else []
def patchB (p : Patch) : List UInt8 := if p.code = 0 then num p.mask ++ (if p.mask.testBit 8 then num p.lab else []) ++ bodyF p.f (bitsTo p.mask 8) else []
theorem cardB_bad {c : Card} (h : c.ok = false) : cardB c = [] := by unfold cardB; rw [h]; rfl
theorem cardB_ok {c : Card} (h : c.ok = true) : cardB c = num c.id ++ num c.ver ++ num c.lab ++ num (maskTo c.f 8) ++ bodyF c.f (kindsTo c.f 8) := by unfold cardB; rw [if_pos h]
theorem patchB_bad {p : Patch} (h : p.code ≠ 0) : patchB p = [] := by unfold patchB; rw [if_neg h]
theorem patchB_lab {p : Patch} (h : p.code = 0) (h8 : p.mask.testBit 8 = true) : patchB p = num p.mask ++ num p.lab ++ bodyF p.f (bitsTo p.mask 8) := by unfold patchB; rw [if_pos h, if_pos h8]
theorem patchB_no {p : Patch} (h : p.code = 0) (h8 : p.mask.testBit 8 = false) : patchB p = num p.mask ++ bodyF p.f (bitsTo p.mask 8) := by unfold patchB; rw [if_pos h, if_neg (by simp [h8]), List.append_nil]
theorem cardB_len (c : Card) : (cardB c).length ≤ 332 := by
  cases h : c.ok
  · rw [cardB_bad h]; simp
  · rw [cardB_ok h]
    have h1 := (num_len c.id).2
    have h2 := (num_len c.ver).2
    have h3 := (num_len c.lab).2
    have h4 := (num_len (maskTo c.f 8)).2
    have h5 := bodyF_len c.f (kindsTo c.f 8)
    have h6 := kindsTo_len c.f 8
    simp only [List.length_append]
    omega
theorem patchB_len (p : Patch) : (patchB p).length ≤ 332 := by
  by_cases h : p.code = 0
  · have h1 := (num_len p.mask).2
    have h2 := (num_len p.lab).2
    have h5 := bodyF_len p.f (bitsTo p.mask 8)
    have h6 := bitsTo_len p.mask 8
    cases h8 : p.mask.testBit 8
    · rw [patchB_no h h8]; simp only [List.length_append]; omega
    · rw [patchB_lab h h8]; simp only [List.length_append]; omega
  · rw [patchB_bad h]; simp
theorem code_zero {p : Patch} (h : p.code = 0) : p.mask ≠ 0 ∧ p.mask ≤ 511 ∧ p.lab < 65536 ∧ (p.lab = 0 ∨ p.mask.testBit 8 = true) ∧ fits p.mask p.f = true := by
  by_cases a : p.mask = 0 ∨ 511 < p.mask
  · rw [Patch.code_mask a] at h; cases h
  · by_cases b : 65536 ≤ p.lab ∨ (p.lab ≠ 0 ∧ p.mask.testBit 8 = false)
    · rw [Patch.code_lab (by omega) (by omega) b] at h; cases h
    · have hl : p.lab = 0 ∨ p.mask.testBit 8 = true := by
        cases h8 : p.mask.testBit 8
        · rw [h8] at b; left; simp at b; omega
        · right; rfl
      refine ⟨by omega, by omega, by omega, hl, ?_⟩
      rw [Patch.code_f (by omega) (by omega) (by omega) hl] at h
      cases hf : fits p.mask p.f
      · rw [hf] at h; cases h
      · rfl
end Go.Proofs.YtplipddgeanajaaDoor
