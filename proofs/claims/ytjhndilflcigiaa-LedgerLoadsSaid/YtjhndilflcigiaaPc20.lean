/-
  Arguments opened: rows.
-/
import Derived.Test.YtjhndilflcigiaaPc19
import Derived.Test.YtjhndilflcigiaaRows
import Derived.WalkKit
import Derived.WalkSpells
import Derived.WalkLawsBesides
import Derived.Lib.Hide
import Derived.Deep.QuietTactic
import Derived.BigQuiet
import Derived.Maps.AppendAt
import Derived.WalkSmall
import Derived.ProofKit
import Derived.OpenShut
import Derived.JoinedCond
import Derived.Deep.Slices
import Derived.Deep.Fields
import Derived.Carry
import Derived.Test.YtjhndilflcigiaaProg
import Derived.Deep.CutBlock
import Derived.Deep.DeepCutAuto
import Derived.Deep.AppendSrc
import Derived.Lib.AppendStr
import Derived.Laws.BytesArg
import Derived.Laws.CopyOwn
import Derived.Outline
import Derived.IntWalk
import Derived.Lib.EndianBits
import Derived.Laws.Tables
import Derived.Laws.Rows
import Derived.Shelf.Spec.TrailingZeros
import Derived.StillTail
import Derived.Lib.AppendZeros
import Derived.Deep.Quiet
import Derived.ChangeKeysEq
import Derived.Laws.StructEq
import Derived.Laws.LoneSync
namespace Go.Proofs.Ytjhndilflcigiaa
open Go.ChangeShapes Go.WideShapes Go.ChangeAt Go.RowKit Go.Deep
open Go.ChangeMaps (open_string shut_string)

section
variable {H : Type} {enc : TypeId × Value → H} {w : World} {spare : Nat → Bool} {held : Bool}
theorem c_row : Try.prog.cellsOf 77 = 12 := by kernel_rfl
theorem open_row {fuel : Nat} {cs : List Value} {x : DataW H × List MemPlace} (h : DataW.trod enc Try.prog w 0 spare held fuel 77 cs = some x) :
    ∃ v : LR, cs = LR.cells v ∧ FltRaw w v.2.1 v.2.2 v.1.a.f ∧ v.1.a.mask < 4294967296 := by
  obtain ⟨xs, n, _, _, hl, hxl, hf⟩ := DataW.trod_struct Try.underlying77 h
  rw [c_row] at hl
  have h0 := hf 0
  have h1 := hf 1
  have h2 := hf 2
  obtain ⟨x0, x1, x2, rfl⟩ := list3 (show xs.length = 3 from hxl)
  simp [c_int, c_reply] at h0 h1 h2
  obtain ⟨a0, e0, -, -⟩ := DataW.trod_int Try.underlying3 h0
  obtain ⟨a1, e1, -, -⟩ := DataW.trod_int Try.underlying3 h1
  obtain ⟨a, A, c, e2, k1, k2, k3, k4, k5⟩ := open_reply h2
  refine ⟨(⟨a0, a1, a⟩, A, c), ?_, ⟨k1, k2, k3, k4⟩, k5⟩
  cases cs with
  | nil => simp at hl
  | cons q0 r1 =>
    cases r1 with
    | nil => simp at hl
    | cons q1 r =>
      simp only [List.length_cons] at hl
      simp only [List.drop_zero, List.take_succ_cons, List.take_zero, List.drop_succ_cons, List.cons.injEq, and_true, List.tail_cons] at e0 e1 e2
      rw [List.take_of_length_le (by omega)] at e2
      unfold LR.cells
      rw [e0, e1, e2]
      rfl
theorem open_rows {fuel : Nat} {cs : List Value} {x : DataW H × List MemPlace} (h : DataW.trod enc Try.prog w 0 spare held fuel 58 cs = some x) :
    ∃ (A : Option Addr) (c : Nat) (l : List LR), cs = [.slice A l.length c] ∧ InX w A c l := by
  rcases open_slice Try.underlying58 h with ⟨rfl, rfl⟩ | ⟨a, len, cap, m, n, D, Pl, rfl, hb, hl, hm, hmm, hx, hi⟩
  · exact ⟨none, 0, [], rfl, by simp, by omega, .inl rfl, (fun _ h => by cases h), (fun _ h => by cases h)⟩
  · have hlm : len ≤ m := by rw [hmm]; split <;> omega
    have hq : ∀ i, i < len → ∃ v : LR, (∀ j u, (LR.cells v)[j]? = some u → w.cell? (a.add (i * 12 + j)) = some u) ∧ FltRaw w v.2.1 v.2.2 v.1.a.f ∧ v.1.a.mask < 4294967296 := by
      intro i hil
      obtain ⟨cs', hc, ht⟩ := hi i (by omega)
      rw [c_row] at hc
      obtain ⟨v, rfl, hv, hm⟩ := open_row ht
      obtain ⟨_, hcl, hat⟩ := World.cells?_some hc
      refine ⟨v, fun j u hu => ?_, hv, hm⟩
      have hj : j < 12 := by rw [← LR.cells_len v]; exact (List.getElem?_eq_some_iff.1 hu).1
      have h1 := hat j hj
      rw [Go.Deep.add_add] at h1
      rw [h1]; exact hu
    obtain ⟨l, hll, hq⟩ := list_of len hq
    refine ⟨some a, cap, l, by rw [hll], by omega, by unfold maxLen at hm; omega, ?_, fun v hv => ?_, fun v hv => ?_⟩
    · rcases Nat.eq_zero_or_pos len with h0 | h0
      · exact .inl (List.eq_nil_of_length_eq_zero (by omega))
      · right
        have h1 := (hq 0 (by omega)).1 0 _ rfl
        have hsp := cell_spot h1
        have hlt := World.block_lt_of_cell? w _ h1
        obtain ⟨ab, ao, asp⟩ := a
        simp [Addr.add] at hsp hlt
        subst hsp
        refine ⟨ab, ao, rfl, hlt, fun i hi j u hu => ?_⟩
        have := (hq i hi).1 j u hu
        rw [add_lit'] at this
        rw [Nat.add_assoc]; exact this
    · obtain ⟨i, hi, rfl⟩ := List.getElem_of_mem hv
      exact Flt.of (hq i hi).2.1
    · obtain ⟨i, hi, rfl⟩ := List.getElem_of_mem hv
      exact (hq i hi).2.2
end
end Go.Proofs.Ytjhndilflcigiaa
