/-
  Arguments opened: slices of bytes.
-/
import Derived.Test.YtplipddgeanajaaOpenA
import Derived.Test.YtplipddgeanajaaOct
namespace Go.Proofs.Ytplipddgeanajaa
open Go.ChangeShapes Go.WideShapes Go.ChangeAt Go.RowKit Go.Deep
open Go.ChangeMaps (open_string shut_string)

theorem u8_range {n : Int} (h : (Lit.int .u8 n).wf = true) : 0 ≤ n ∧ n ≤ 255 := by
  simpa [Lit.wf, IntKind.min, IntKind.max, IntKind.signed, IntKind.bits] using h
section
variable {H : Type} {enc : TypeId × Value → H} {w : World} {base : Nat} {spare : Nat → Bool} {held : Bool}
theorem c_uint8 : Try.prog.cellsOf 5 = 1 := by kernel_rfl
/-- A slice of bytes that came in. -/
theorem open_bytes {fuel : Nat} {cs : List Value} {x : DataW H × List MemPlace} (h : DataW.trod enc Try.prog w 0 spare held fuel 27 cs = some x) :
    ∃ (A : Option Addr) (c : Nat) (l : List UInt8), cs = [.slice A l.length c] ∧ l.length ≤ c ∧ c ≤ 9223372036854775807 ∧ (l = [] ∨ ∃ b off, A = some ⟨b, off, none⟩ ∧ b < w.heap.size ∧ Row 1 bc w b off l) := by
  rcases open_slice Try.underlying27 h with ⟨rfl, rfl⟩ | ⟨a, len, cap, m, n, D, Pl, rfl, hb, hl, hm, hmm, hx, hi⟩
  · exact ⟨none, 0, [], rfl, by simp, by omega, .inl rfl⟩
  · have hlm : len ≤ m := by rw [hmm]; split <;> omega
    have hq : ∀ i, i < len → ∃ v : UInt8, ∀ j u, (bc v)[j]? = some u → w.cell? (a.add (i * 1 + j)) = some u := by
      intro i hil
      obtain ⟨cs', hc, ht⟩ := hi i (by omega)
      rw [c_uint8] at hc
      obtain ⟨k, hk, _, wk⟩ := DataW.trod_int Try.underlying5 ht
      have hr := u8_range wk
      obtain ⟨_, hcl, hat⟩ := World.cells?_some hc
      refine ⟨UInt8.ofNat k.toNat, fun j u hu => ?_⟩
      have hj : j < 1 := (List.getElem?_eq_some_iff.1 hu).1
      have hj0 : j = 0 := by omega
      subst hj0
      have h1 := hat 0 (by omega)
      rw [Go.Deep.add_add] at h1
      rw [h1, hk]
      have e : ((UInt8.ofNat k.toNat).toNat : Int) = k := by simp; omega
      simp [bc] at hu
      rw [← hu]
      simp; omega
    obtain ⟨l, hll, hq⟩ := list_of len hq
    refine ⟨some a, cap, l, by rw [hll], by omega, by unfold maxLen at hm; omega, ?_⟩
    rcases Nat.eq_zero_or_pos len with h0 | h0
    · exact .inl (List.eq_nil_of_length_eq_zero (by omega))
    · right
      have h1 := hq 0 (by omega) 0 _ rfl
      have hsp := cell_spot h1
      have hlt := World.block_lt_of_cell? w _ h1
      obtain ⟨ab, ao, asp⟩ := a
      simp [Addr.add] at hsp hlt
      subst hsp
      refine ⟨ab, ao, rfl, hlt, fun i hi j u hu => ?_⟩
      have := hq i hi j u hu
      rw [add_lit'] at this
      rw [Nat.add_assoc]; exact this
end
end Go.Proofs.Ytplipddgeanajaa
