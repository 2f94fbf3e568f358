/-
  Which of two texts, values, nodes, lists stands ahead: plain, without any program.
-/
import Derived.Test.YtplipddgeanajaaDat
namespace Go.Proofs.Ytplipddgeanajaa

def cmpI (a b : Int) : Int := if a < b then -1 else if b < a then 1 else 0
theorem cmpI_lt {a b : Int} (h : a < b) : cmpI a b = -1 := by unfold cmpI; rw [if_pos h]
theorem cmpI_gt {a b : Int} (h : b < a) : cmpI a b = 1 := by unfold cmpI; rw [if_neg (by omega), if_pos h]
theorem cmpI_eq {a b : Int} (h : a = b) : cmpI a b = 0 := by unfold cmpI; rw [if_neg (by omega), if_neg (by omega)]
theorem cmpI_zero {a b : Int} : cmpI a b = 0 ↔ a = b := by
  constructor
  · intro h
    rcases Int.lt_trichotomy a b with h1 | h1 | h1
    · rw [cmpI_lt h1] at h; cases h
    · exact h1
    · rw [cmpI_gt h1] at h; cases h
  · exact cmpI_eq
theorem cmpI_bd (a b : Int) : -1 ≤ cmpI a b ∧ cmpI a b ≤ 1 := by
  rcases Int.lt_trichotomy a b with h1 | h1 | h1
  · rw [cmpI_lt h1]; omega
  · rw [cmpI_eq h1]; omega
  · rw [cmpI_gt h1]; omega
theorem cmpI_neg (a b : Int) : cmpI b a = -cmpI a b := by
  rcases Int.lt_trichotomy a b with h1 | h1 | h1
  · rw [cmpI_lt h1, cmpI_gt h1]; rfl
  · rw [cmpI_eq h1, cmpI_eq h1.symm]; rfl
  · rw [cmpI_gt h1, cmpI_lt h1]
theorem cmpI_self (a : Int) : cmpI a a = 0 := cmpI_eq rfl
def cmpS : List UInt8 → List UInt8 → Int
  | [], [] => 0
  | [], _ :: _ => -1
  | _ :: _, [] => 1
  | a :: x, b :: y => if a.toNat < b.toNat then -1 else if b.toNat < a.toNat then 1 else cmpS x y
theorem cmpS_bd : ∀ a b, -1 ≤ cmpS a b ∧ cmpS a b ≤ 1
  | [], [] => by simp [cmpS]
  | [], _ :: _ => by simp [cmpS]
  | _ :: _, [] => by simp [cmpS]
  | a :: x, b :: y => by
    unfold cmpS
    split
    · omega
    · split
      · omega
      · exact cmpS_bd x y
theorem cmpS_neg : ∀ a b, cmpS b a = -cmpS a b
  | [], [] => rfl
  | [], _ :: _ => rfl
  | _ :: _, [] => rfl
  | a :: x, b :: y => by
    have ih := cmpS_neg x y
    unfold cmpS
    by_cases h1 : a.toNat < b.toNat
    · rw [if_neg (by omega), if_pos h1, if_pos h1]; rfl
    · by_cases h2 : b.toNat < a.toNat
      · rw [if_pos h2, if_neg h1, if_pos h2]
      · rw [if_neg h2, if_neg h1, if_neg h1, if_neg h2]; exact ih
theorem cmpS_zero : ∀ a b, cmpS a b = 0 ↔ a = b
  | [], [] => by simp [cmpS]
  | [], _ :: _ => by simp [cmpS]
  | _ :: _, [] => by simp [cmpS]
  | a :: x, b :: y => by
    have ih := cmpS_zero x y
    unfold cmpS
    by_cases h1 : a.toNat < b.toNat
    · rw [if_pos h1]; constructor
      · intro h; cases h
      · intro h; injection h with h2; subst h2; omega
    · by_cases h2 : b.toNat < a.toNat
      · rw [if_neg h1, if_pos h2]; constructor
        · intro h; cases h
        · intro h; injection h with h3; subst h3; omega
      · rw [if_neg h1, if_neg h2, ih]
        have : a = b := UInt8.toNat_inj.1 (by omega)
        subst this
        simp
theorem bytesLess_cmp : ∀ a b : List UInt8, Op.bytesLess a b = decide (cmpS a b = -1)
  | [], [] => rfl
  | [], _ :: _ => rfl
  | _ :: _, [] => rfl
  | a :: x, b :: y => by
    have ih := bytesLess_cmp x y
    unfold Op.bytesLess cmpS
    by_cases h1 : a.toNat < b.toNat
    · rw [if_pos h1]; simp [UInt8.lt_iff_toNat_lt, h1]
    · by_cases h2 : b.toNat < a.toNat
      · rw [if_neg h1, if_pos h2]
        have hne : a ≠ b := fun e => by subst e; omega
        simp [UInt8.lt_iff_toNat_lt, h1, hne]
      · have : a = b := UInt8.toNat_inj.1 (by omega)
        subst this
        rw [if_neg h1, if_neg h2, ih]
        simp [UInt8.lt_iff_toNat_lt]
theorem beq_cmp (a b : List UInt8) : (a == b) = decide (cmpS a b = 0) := by
  rw [Bool.eq_iff_iff]; simp [cmpS_zero]
def Val.cmp (a b : Val) : Int := if cmpI a.kind b.kind ≠ 0 then cmpI a.kind b.kind else if cmpI a.n b.n ≠ 0 then cmpI a.n b.n else cmpS a.s b.s
theorem Val.cmp_bd (a b : Val) : -1 ≤ a.cmp b ∧ a.cmp b ≤ 1 := by
  unfold Val.cmp
  have h1 := cmpI_bd a.kind b.kind
  have h2 := cmpI_bd a.n b.n
  have h3 := cmpS_bd a.s b.s
  split
  · exact h1
  · split
    · exact h2
    · exact h3
theorem Val.cmp_neg (a b : Val) : b.cmp a = -a.cmp b := by
  unfold Val.cmp
  rw [cmpI_neg a.kind b.kind, cmpI_neg a.n b.n, cmpS_neg a.s b.s]
  by_cases h1 : cmpI a.kind b.kind = 0
  · by_cases h2 : cmpI a.n b.n = 0
    · simp [h1, h2]
    · simp [h1, h2]
  · simp [h1]
theorem Val.cmp_zero (a b : Val) : a.cmp b = 0 ↔ a = b := by
  unfold Val.cmp
  obtain ⟨k, n, s⟩ := a
  obtain ⟨k', n', s'⟩ := b
  simp only [Val.mk.injEq]
  by_cases h1 : k = k'
  · by_cases h2 : n = n'
    · subst h1; subst h2; simp [cmpI_self, cmpS_zero]
    · have := mt cmpI_zero.1 h2
      simp [cmpI_eq h1, this, h2]
  · have := mt cmpI_zero.1 h1
    simp [this, h1]
def Node.cmp (a b : Node) : Int := if cmpI a.op b.op ≠ 0 then cmpI a.op b.op else if cmpI a.n b.n ≠ 0 then cmpI a.n b.n else a.v.cmp b.v
theorem Node.cmp_bd (a b : Node) : -1 ≤ a.cmp b ∧ a.cmp b ≤ 1 := by
  unfold Node.cmp
  have h1 := cmpI_bd a.op b.op
  have h2 := cmpI_bd a.n b.n
  have h3 := Val.cmp_bd a.v b.v
  split
  · exact h1
  · split
    · exact h2
    · exact h3
theorem Node.cmp_neg (a b : Node) : b.cmp a = -a.cmp b := by
  unfold Node.cmp
  rw [cmpI_neg a.op b.op, cmpI_neg a.n b.n, Val.cmp_neg a.v b.v]
  by_cases h1 : cmpI a.op b.op = 0
  · by_cases h2 : cmpI a.n b.n = 0
    · simp [h1, h2]
    · simp [h1, h2]
  · simp [h1]
theorem Val.cmp_self (a : Val) : a.cmp a = 0 := (Val.cmp_zero a a).2 rfl
theorem Node.cmp_zero (a b : Node) : a.cmp b = 0 ↔ a = b := by
  unfold Node.cmp
  obtain ⟨k, n, s⟩ := a
  obtain ⟨k', n', s'⟩ := b
  simp only [Node.mk.injEq]
  by_cases h1 : k = k'
  · by_cases h2 : n = n'
    · subst h1; subst h2; simp [cmpI_self, Val.cmp_zero]
    · have := mt cmpI_zero.1 h2
      simp [cmpI_eq h1, this, h2]
  · have := mt cmpI_zero.1 h1
    simp [this, h1]
theorem Node.cmp_self (a : Node) : a.cmp a = 0 := (Node.cmp_zero a a).2 rfl
/-- Which list stands ahead. -/
def cmpL : List Node → List Node → Int
  | [], [] => 0
  | [], _ :: _ => -1
  | _ :: _, [] => 1
  | a :: x, b :: y => if a.cmp b ≠ 0 then a.cmp b else cmpL x y
theorem cmpL_bd : ∀ a b, -1 ≤ cmpL a b ∧ cmpL a b ≤ 1
  | [], [] => by simp [cmpL]
  | [], _ :: _ => by simp [cmpL]
  | _ :: _, [] => by simp [cmpL]
  | a :: x, b :: y => by
    unfold cmpL
    split
    · exact Node.cmp_bd a b
    · exact cmpL_bd x y
theorem cmpL_neg : ∀ a b, cmpL b a = -cmpL a b
  | [], [] => rfl
  | [], _ :: _ => rfl
  | _ :: _, [] => rfl
  | a :: x, b :: y => by
    have ih := cmpL_neg x y
    unfold cmpL
    rw [Node.cmp_neg a b]
    by_cases h1 : a.cmp b = 0
    · simp [h1, ih]
    · simp [h1]
theorem cmpL_zero : ∀ a b, cmpL a b = 0 ↔ a = b
  | [], [] => by simp [cmpL]
  | [], _ :: _ => by simp [cmpL]
  | _ :: _, [] => by simp [cmpL]
  | a :: x, b :: y => by
    have ih := cmpL_zero x y
    unfold cmpL
    by_cases h1 : a.cmp b = 0
    · have := (Node.cmp_zero a b).1 h1
      subst this
      simp [Node.cmp_self, ih]
    · have : a ≠ b := mt (Node.cmp_zero a b).2 h1
      simp [h1, this]
theorem cmpL_at (a b : List Node) (k : Nat) (ha : k < a.length) (hb : k < b.length) : cmpL (a.drop k) (b.drop k) = if a[k].cmp b[k] ≠ 0 then a[k].cmp b[k] else cmpL (a.drop (k + 1)) (b.drop (k + 1)) := by
  rw [List.drop_eq_getElem_cons ha, List.drop_eq_getElem_cons hb]; rfl
theorem cmpL_left (a b : List Node) (k : Nat) (ha : a.length ≤ k) (hb : k < b.length) : cmpL (a.drop k) (b.drop k) = -1 := by
  rw [List.drop_of_length_le ha, List.drop_eq_getElem_cons hb]; rfl
theorem cmpL_right (a b : List Node) (k : Nat) (ha : k < a.length) (hb : b.length ≤ k) : cmpL (a.drop k) (b.drop k) = 1 := by
  rw [List.drop_of_length_le hb, List.drop_eq_getElem_cons ha]; rfl
theorem cmpL_both (a b : List Node) (k : Nat) (ha : a.length ≤ k) (hb : b.length ≤ k) : cmpL (a.drop k) (b.drop k) = 0 := by
  rw [List.drop_of_length_le hb, List.drop_of_length_le ha]; rfl
theorem cmpS_at (a b : List UInt8) (k : Nat) (ha : k < a.length) (hb : k < b.length) : cmpS (a.drop k) (b.drop k) = if a[k].toNat < b[k].toNat then -1 else if b[k].toNat < a[k].toNat then 1 else cmpS (a.drop (k + 1)) (b.drop (k + 1)) := by
  rw [List.drop_eq_getElem_cons ha, List.drop_eq_getElem_cons hb]; rfl
theorem cmpS_left (a b : List UInt8) (k : Nat) (ha : a.length ≤ k) (hb : k < b.length) : cmpS (a.drop k) (b.drop k) = -1 := by
  rw [List.drop_of_length_le ha, List.drop_eq_getElem_cons hb]; rfl
theorem cmpS_right (a b : List UInt8) (k : Nat) (ha : k < a.length) (hb : b.length ≤ k) : cmpS (a.drop k) (b.drop k) = 1 := by
  rw [List.drop_of_length_le hb, List.drop_eq_getElem_cons ha]; rfl
theorem cmpS_both (a b : List UInt8) (k : Nat) (ha : a.length ≤ k) (hb : b.length ≤ k) : cmpS (a.drop k) (b.drop k) = 0 := by
  rw [List.drop_of_length_le hb, List.drop_of_length_le ha]; rfl
end Go.Proofs.Ytplipddgeanajaa
