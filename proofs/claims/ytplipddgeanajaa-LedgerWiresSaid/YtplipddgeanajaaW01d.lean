/-
  The walk of chapter 1's New: a reader of a copy of bytes.
-/
import Derived.Test.YtplipddgeanajaaW01c
namespace Go.Proofs.Ytplipddgeanajaa
open Go.RowKit

theorem splice_all {l : List UInt8} {cur : List Value} (hc : cur.length = l.length) : splice cur 0 (l.flatMap bc) = l.flatMap bc := by
  have hl := flat_length bc_len l
  unfold splice
  rw [List.take_zero, List.nil_append, List.drop_of_length_le (by omega), List.append_nil]
theorem Row.of_heap {w : World} {b : Nat} {t : TypeId} {l : List UInt8} (h : w.heap[b]? = some (.cells (l.flatMap bc).toArray t (0, 0))) : Row 1 bc w b 0 l := by
  intro i hi j u hu
  have hj : j < 1 := (List.getElem?_eq_some_iff.1 hu).1
  have h0 : j = 0 := by omega
  subst h0
  have := flat_get bc_len l i hi 0 (by omega)
  rw [cell_of_row w b _ _ _ _ h, List.getElem?_toArray, Nat.zero_add, this]
  exact hu
/-- The walk stands still at a copy. -/
theorem stop_copy {P : Program} {w : World} {ops : Array Oper} {rest : List Oper} {o : Oper} {a : Act} {Q : Exit → Act → World → Prop} (d s : Operand) (dT sT : TypeId)
    (_ : o.op = .call { callee := .builtin .copy, args := #[d, s], argTypes := #[dT, sT] }) (h : Stop (wpList P ops Q (o :: rest) a w)) : wpList P ops Q (o :: rest) a w := h
set_option maxHeartbeats 400000 in
set_option maxRecDepth 4000 in
theorem c_octet_New (l : List UInt8) (A : Option Addr) (c : Nat) (w : World) (h : InB w A c l) : Calls Try.prog 17 #[.slice A l.length c] w (RetNew w l) := by
  have hL := h.1
  have hC := h.2.1
  have hS := h.2.2.1
  obtain ⟨i, z, hi, hz0, hz1, hz2, hz3⟩ := elemB.info
  have H := Lib.hid h
  clear h
  go_enter Try.func17, Try.ntmps17
  go_wp2_with (at_make; refine Stop.out ?_)
  refine Stop.mk (wpList_make_full _ rfl (.tmp 5) (.tmp 5) 27 rfl w.heap.size 5 i z 1 Try.underlying27 hi hz0 hz1 _ _ _ _ l.length rfl rfl rfl rfl (by rw [hz2]; omega) (by unfold maxLen; omega) (Nat.le_refl _) ?_)
  intro w1 own1 g1
  have hb1 : Below w.heap.size w w1 := grown_below g1 (Nat.le_refl _) (fun k hk => by cases hk)
  obtain ⟨cur, hcur, hcl⟩ : ∃ cur : List Value, w1.heap[w.heap.size]? = some (.cells cur.toArray 5 (0, 0)) ∧ cur.length = l.length := by
    rcases own1.2 with ⟨hv, _⟩ | ⟨g, cap, cur, hv, _, hh, _, _, hs, _⟩
    · cases hv
    · injection hv with e1 e2 e3
      injection e1 with e1
      injection e1 with e1
      subst e1 e3
      exact ⟨cur.toList, hh, by simpa using hs⟩
  have Hcur := Lib.hid hcur
  have Hcl := Lib.hid hcl
  have Own1 := Lib.hid own1
  have hz1' := hb1.size
  clear hcur hcl own1 g1
  have hwz : w.heap.size < w1.heap.size := by
    have h1 := Hcur.out
    rcases Nat.lt_or_ge w.heap.size w1.heap.size with hlt | hge
    · exact hlt
    · rw [Array.getElem?_eq_none hge] at h1; cases h1
  go_wp2_with (with_reducible refine stop_copy (.tmp 7) (.tmp 8) _ _ rfl ?_)
  have hsrc := Src.of_in bc_len (by omega) (H.out.below hb1)
  have hfl := flat_length bc_len l
  refine Stop.mk (wpList_copy_splice rfl (.tmp 7) (.tmp 8) _ _ rfl 5 Try.underlying27 (by kernel_rfl) _ _ _ _ _ _ rfl rfl w.heap.size 0 cur 5 Hcur.out (l.flatMap bc) (by simp [hfl]) ?_ (by have := Hcl.out; omega) (bc_one l) w.heap.size w hb1 (Nat.le_refl _) ?_)
  · intro hpos
    obtain ⟨ad, h1, h2⟩ := hsrc.2 (by omega)
    exact ⟨rfl, ad, h1, h2⟩
  intro w2 hg2 hb2
  have hrow2 : Row 1 bc w2 w.heap.size 0 l := by
    have := hg2.out
    rw [splice_all Hcl.out] at this
    exact Row.of_heap this
  have hwz2 : w.heap.size < w2.heap.size := by
    have h1 := hg2.out
    rcases Nat.lt_or_ge w.heap.size w2.heap.size with hlt | hge
    · exact hlt
    · rw [Array.getElem?_eq_none hge] at h1; cases h1
  have Hrow2 := Lib.hid hrow2
  clear hrow2 hsrc hfl
  go_wp2_with (fail)
  go_ret
  refine ⟨w2.heap.size, rfl, by omega, ?_, (by repeat (first | exact Below.refl _ _ | refine Below.drew ?_ | refine Below.alloc ?_ (by first | omega | (simp; done) | (simp; omega)) _ | refine Below.setCell ?_ (by first | omega | (simp; done) | (simp; omega)) _ | refine Below.trans ?_ (Below.mono (by assumption) (by first | omega | (simp; done) | (simp; omega)))))⟩
  refine RdP.mk (A := some ⟨w.heap.size, 0, none⟩) (c := l.length) (B := l) (pos := 0) ⟨Blk.new _ _ _, by omega, Nat.le_refl _, by omega, hS, .inr ⟨_, _, rfl, hwz2, ?_⟩⟩ rfl
  exact Hrow2.out.below ((Below.refl _ _).alloc (Nat.le_refl _) _) hwz2
end Go.Proofs.Ytplipddgeanajaa
