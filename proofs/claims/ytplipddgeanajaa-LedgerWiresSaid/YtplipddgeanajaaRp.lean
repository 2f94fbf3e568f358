/-
  Filters taken off bytes: what is read, and what the reader is then. No program is looked at here.
-/
import Derived.Test.YtplipddgeanajaaW16a
import Derived.Test.YtplipddgeanajaaW08b
namespace Go.Proofs.Ytplipddgeanajaa
open Go.RowKit

def belowOf (op : Int) : Int := if op = 3 ∨ op = 4 then 16 else 8
def ndA (st : Rd) : Rd := if rdN st 12 = 0 then rdF (rdN' st 12) 3 else rdN' st 12
def ndN (st : Rd) : Int := if named (rdN st 12) then rdN (ndA st) (belowOf (rdN st 12) - 1) else 0
def ndB (st : Rd) : Rd := if named (rdN st 12) then rdN' (ndA st) (belowOf (rdN st 12) - 1) else ndA st
def ndV (st : Rd) : Val := if valued (rdN st 12) then rdVal (ndB st) else ⟨0, 0, []⟩
def ndC (st : Rd) : Rd := if valued (rdN st 12) then rdVal' (ndB st) else ndB st
def ndNode (st : Rd) : Node := ⟨rdN st 12, ndN st, ndV st⟩
def ndD (st : Rd) : Rd := if valued (rdN st 12) ∧ (ndNode st).ok = false then rdF (ndC st) 3 else ndC st
def rdNodes : Nat → Rd → List Node
  | 0, _ => []
  | k + 1, st => if st.e = 0 then ndNode st :: rdNodes k (ndD st) else []
def rdNodes' : Nat → Rd → Rd
  | 0, st => st
  | k + 1, st => if st.e = 0 then rdNodes' k (ndD st) else st
def pdA (st : Rd) : Rd := if rdN st 31 = 0 then rdF (rdN' st 31) 3 else rdN' st 31
def pdL (st : Rd) : List Node := rdNodes (rdN st 31).toNat (pdA st)
def pdS (st : Rd) : Rd := rdNodes' (rdN st 31).toNat (pdA st)
@[irreducible] def rdPred (st : Rd) : List Node := if (pdS st).e = 0 ∧ check (pdL st) = 0 then pdL st else []
@[irreducible] def rdPred' (st : Rd) : Rd := if (pdS st).e = 0 then (if check (pdL st) = 0 then pdS st else if check (pdL st) = 5 then ⟨(pdS st).s, 5⟩ else ⟨(pdS st).s, 3⟩) else pdS st

theorem rdNodes'_bad {st : Rd} (h : st.e ≠ 0) : ∀ k, rdNodes' k st = st
  | 0 => rfl
  | k + 1 => by unfold rdNodes'; rw [if_neg h]
theorem rdNodes'_ok {st : Rd} (h : st.e = 0) (k : Nat) : rdNodes' (k + 1) st = rdNodes' k (ndD st) := by rw [rdNodes', if_pos h]
theorem rdNodes_ok {st : Rd} (h : st.e = 0) (k : Nat) : rdNodes (k + 1) st = ndNode st :: rdNodes k (ndD st) := by rw [rdNodes, if_pos h]
theorem named_zero : named 0 = false := by decide
theorem valued_zero : valued 0 = false := by decide
/-- Nothing more is read behind a node without a kind. -/
theorem rdNodes'_none {st : Rd} (h : rdN st 12 = 0) (k : Nat) : rdNodes' (k + 1) st = rdF (rdN' st 12) 3 ∧ (rdF (rdN' st 12) 3).e ≠ 0 := by
  refine ⟨?_, rdF_bad _ (by decide)⟩
  by_cases h0 : st.e = 0
  · rw [rdNodes'_ok h0]
    have hd : ndD st = rdF (rdN' st 12) 3 := by
      unfold ndD ndC ndB ndA
      simp [h, named_zero, valued_zero]
    rw [hd, rdNodes'_bad (rdF_bad _ (by decide))]
  · rw [rdNodes'_bad h0, (rdN_err h0).2, rdF_err h0]
theorem ndA_ok {st : Rd} (h : rdN st 12 ≠ 0) : ndA st = rdN' st 12 := by unfold ndA; rw [if_neg h]
theorem nd_A {st : Rd} (h : rdN st 12 ≠ 0) (h1 : named (rdN st 12) = false) (h2 : valued (rdN st 12) = false) : ndNode st = ⟨rdN st 12, 0, ⟨0, 0, []⟩⟩ ∧ ndD st = rdN' st 12 := by
  unfold ndNode ndD ndC ndB ndN ndV
  simp [h1, h2, ndA_ok h]
theorem nd_B {st : Rd} (h : rdN st 12 ≠ 0) (h1 : named (rdN st 12) = true) (h2 : valued (rdN st 12) = false) :
    ndNode st = ⟨rdN st 12, rdN (rdN' st 12) (belowOf (rdN st 12) - 1), ⟨0, 0, []⟩⟩ ∧ ndD st = rdN' (rdN' st 12) (belowOf (rdN st 12) - 1) := by
  unfold ndNode ndD ndC ndB ndN ndV
  simp [h1, h2, ndA_ok h]
theorem nd_C {st : Rd} (h : rdN st 12 ≠ 0) (h1 : named (rdN st 12) = true) (h2 : valued (rdN st 12) = true) :
    ndNode st = ⟨rdN st 12, rdN (rdN' st 12) (belowOf (rdN st 12) - 1), rdVal (rdN' (rdN' st 12) (belowOf (rdN st 12) - 1))⟩ ∧
    ndD st = if (ndNode st).ok = false then rdF (rdVal' (rdN' (rdN' st 12) (belowOf (rdN st 12) - 1))) 3 else rdVal' (rdN' (rdN' st 12) (belowOf (rdN st 12) - 1)) := by
  simp [ndD, ndNode, ndC, ndB, ndN, ndV, h1, h2, ndA_ok h]
theorem belowOf_bd (op : Int) : 8 ≤ belowOf op ∧ belowOf op ≤ 16 := by unfold belowOf; split <;> omega
theorem rdNodes_len : ∀ k st, (rdNodes k st).length ≤ k
  | 0, _ => by simp [rdNodes]
  | k + 1, st => by
    have := rdNodes_len k (ndD st)
    unfold rdNodes; split <;> simp; omega
theorem rdVal_len (st : Rd) : (rdVal st).s.length ≤ 24 := by
  unfold rdVal
  split
  · simp only
    split
    · have := rdS_len (rdN' st 2) 24
      rcases this.2.1 with h | h
      · omega
      · rw [h]; simp
    · simp
  · simp
theorem ndV_len (st : Rd) : (ndNode st).v.s.length ≤ 24 := by
  unfold ndNode ndV
  simp only
  split
  · exact rdVal_len _
  · simp
theorem rdNodes_texts : ∀ k st, ∀ x ∈ rdNodes k st, x.v.s.length ≤ 24
  | 0, _, x, hx => by simp [rdNodes] at hx
  | k + 1, st, x, hx => by
    unfold rdNodes at hx
    split at hx
    · rcases List.mem_cons.1 hx with rfl | hx
      · exact ndV_len st
      · exact rdNodes_texts k _ x hx
    · simp at hx
theorem pdL_len (st : Rd) : (pdL st).length ≤ 31 := by
  have h1 := rdNodes_len (rdN st 31).toNat (pdA st)
  have h2 := rdN_bd st 31
  unfold pdL; omega
theorem check_cases {l : List Node} (h : l.length ≤ 31) : check l = 0 ∨ check l = 1 ∨ check l = 5 := by
  unfold check
  rw [if_neg (by omega)]
  split
  · simp
  · split
    · simp
    · split <;> simp
theorem rdPred_bad {st : Rd} (h : (pdS st).e ≠ 0) : rdPred st = [] ∧ rdPred' st = pdS st := by unfold rdPred rdPred'; rw [if_neg (fun k => h k.1), if_neg h]; exact ⟨rfl, rfl⟩
theorem rdPred_ok {st : Rd} (h : (pdS st).e = 0) (hc : check (pdL st) = 0) : rdPred st = pdL st ∧ rdPred' st = pdS st := by unfold rdPred rdPred'; rw [if_pos ⟨h, hc⟩, if_pos h, if_pos hc]; exact ⟨rfl, rfl⟩
theorem rdPred_5 {st : Rd} (h : (pdS st).e = 0) (hc : check (pdL st) = 5) : rdPred st = [] ∧ rdPred' st = rdF (pdS st) 5 := by
  unfold rdPred rdPred'; rw [if_neg (fun k => by have := k.2; omega), if_pos h, if_neg (by omega), if_pos hc, rdF_ok h]; exact ⟨rfl, rfl⟩
theorem rdPred_1 {st : Rd} (h : (pdS st).e = 0) (hc : check (pdL st) = 1) : rdPred st = [] ∧ rdPred' st = rdF (pdS st) 3 := by
  unfold rdPred rdPred'; rw [if_neg (fun k => by have := k.2; omega), if_pos h, if_neg (by omega), if_neg (by omega), rdF_ok h]; exact ⟨rfl, rfl⟩

theorem Kept.low {p : Option Nat} {B : Nat} {a w w' : World} (h : Kept p B a w) (k : Below B w w') : Kept p B a w' := h.trans (.of_below k)
/-- What the call owns stays owned while a block of another kind is written. -/
theorem own_far {w : World} {base : Nat} {e : TypeId} {size n : Nat} {v : Value} {xs : List Value} {a : Addr} {u : Value} (h : w.ownsRow base e size v n xs) (hne : v.ownBlock ≠ some a.block) : (w.setCell a u).ownsRow base e size v n xs := by
  obtain ⟨h1, h2⟩ := h
  refine ⟨h1, ?_⟩
  rcases h2 with h2 | ⟨g, cap, cur, hv, hg, hh, r⟩
  · exact .inl h2
  · subst hv
    exact .inr ⟨g, cap, cur, rfl, hg, by rw [Below.heap_setCell _ _ _ _ (fun e => hne (by simp [Value.ownBlock, e]))]; exact hh, r⟩
theorem own_lt {w : World} {base : Nat} {e : TypeId} {size n : Nat} {v : Value} {xs : List Value} (h : w.ownsRow base e size v n xs) {b : Nat} (hb : w.heap.size ≤ b) : v.ownBlock ≠ some b := fun e => by have := (h.lt b e).2; omega
/-! The ends of the calls that read a slice. -/
def RetPS {α : Type} (p : Option Nat) (st' : Rd) (k : Nat) (cs : α → List Value) (et : TypeId) (w : World) (l : List α) (e : Ending) (w' : World) : Prop :=
  ∃ v, e = .returned v ∧ w'.ownsRow w.heap.size et k v l.length (l.flatMap cs) ∧ RdP w' p st' ∧ Kept p w.heap.size w w'
def RetRS {α : Type} (h : Nat) (st' : Rd) (k : Nat) (cs : α → List Value) (et : TypeId) (w : World) (l : List α) (e : Ending) (w' : World) : Prop :=
  ∃ v, e = .returned v ∧ w'.ownsRow w.heap.size et k v l.length (l.flatMap cs) ∧ RdR w' h st' ∧ Kept (some h) w.heap.size w w'
end Go.Proofs.Ytplipddgeanajaa
