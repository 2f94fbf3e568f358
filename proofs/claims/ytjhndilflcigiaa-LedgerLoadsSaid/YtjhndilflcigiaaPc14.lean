/-
  The walks of atomic numbers, and of (*Ledger).Raise: a row's epochs are counted.
-/
import Derived.Test.YtjhndilflcigiaaPc13
import Derived.Test.YtjhndilflcigiaaRows
import Derived.WalkKit
import Derived.WalkSpells
import Derived.WalkLawsBesides
import Derived.Lib.Hide
import Derived.Deep.QuietTactic
import Derived.BigQuiet
import Derived.Maps.AppendAt
import Derived.WalkSmall
import Derived.ProofKit
import Derived.OpenShut
import Derived.JoinedCond
import Derived.Deep.Slices
import Derived.Deep.Fields
import Derived.Carry
import Derived.Test.YtjhndilflcigiaaProg
import Derived.Deep.CutBlock
import Derived.Deep.DeepCutAuto
import Derived.Deep.AppendSrc
import Derived.Lib.AppendStr
import Derived.Laws.BytesArg
import Derived.Laws.CopyOwn
import Derived.Outline
import Derived.IntWalk
import Derived.Lib.EndianBits
import Derived.Laws.Tables
import Derived.Laws.Rows
import Derived.Shelf.Spec.TrailingZeros
import Derived.StillTail
import Derived.Lib.AppendZeros
import Derived.Deep.Quiet
import Derived.ChangeKeysEq
import Derived.Laws.StructEq
import Derived.Laws.LoneSync
namespace Go.Proofs.Ytjhndilflcigiaa
open Go.RowKit

set_option maxHeartbeats 400000 in
theorem c_atomic_Load (g o : Nat) (x : Int) (w : World) (h : w.cell? ⟨g, o, none⟩ = some (.int .i64 x)) :
    Calls Try.prog 41 #[.pointer (some ⟨g, o, none⟩)] w (fun e w' => e = .returned (.int .i64 x) ∧ w' = w) := by
  have hd := run_call_load (P := Try.prog) Try.func72 (by kernel_rfl) (by kernel_rfl) (by kernel_rfl) .i64 (by kernel_rfl) h
  go_enter Try.func41, Try.ntmps41
  go_wp2_with (fail)
  go_ret
  exact ⟨rfl, rfl⟩
set_option maxHeartbeats 400000 in
theorem c_atomic_Store (g o : Nat) (x y : Int) (w : World) (h : w.cell? ⟨g, o, none⟩ = some (.int .i64 x)) (hz : w.frozen? ⟨g, o, none⟩ = false) :
    Calls Try.prog 55 #[.pointer (some ⟨g, o, none⟩), .int .i64 y] w (fun e w' => e = .returned (.tuple #[]) ∧ w' = w.setCell ⟨g, o, none⟩ (.int .i64 y)) := by
  have hd := run_call_store (P := Try.prog) Try.func91 (by kernel_rfl) (by kernel_rfl) (by kernel_rfl) (by kernel_rfl) (k := .i64) (y := y) h hz
  go_enter Try.func55, Try.ntmps55
  go_wp2_with (fail)
  go_end0
  exact ⟨rfl, rfl⟩
theorem lg_ep {l : List LR} {k : Nat} (hk : k < l.length) (ep : Int) :
    (lgArr l).setIfInBounds (k * 12 + 1) (.int .i64 ep) = lgArr (l.set k (⟨l[k].1.last, ep, l[k].1.a⟩, l[k].2.1, l[k].2.2)) := by
  have hs := lg_size l
  have hs2 := lg_size (l.set k (⟨l[k].1.last, ep, l[k].1.a⟩, l[k].2.1, l[k].2.2))
  rw [List.length_set] at hs2
  apply Array.ext_getElem?
  intro i
  by_cases hi : i < l.length * 12
  · have hq : i / 12 < l.length := by omega
    have hr : i % 12 < 12 := Nat.mod_lt _ (by omega)
    have hir : i / 12 * 12 + i % 12 = i := by omega
    have e1 := lg_get hq (i % 12) hr
    have e2 := lg_get (l := l.set k (⟨l[k].1.last, ep, l[k].1.a⟩, l[k].2.1, l[k].2.2)) (k := i / 12) (by rw [List.length_set]; exact hq) (i % 12) hr
    rw [hir] at e1 e2
    rw [e2]
    by_cases hqk : i / 12 = k
    · rw [List.getElem_set, if_pos hqk.symm]
      by_cases h0 : i % 12 = 1
      · rw [show i = k * 12 + 1 by omega, Array.getElem?_setIfInBounds_self_of_lt (by rw [hs]; omega), show (k * 12 + 1) % 12 = 1 by omega]
        rfl
      · rw [Array.getElem?_setIfInBounds_ne (by omega), e1]
        subst hqk
        have h12 : i % 12 = 0 ∨ 2 ≤ i % 12 := by omega
        rcases h12 with h | h
        · rw [h]; rfl
        · unfold LR.cells
          rw [List.getElem?_append_right (by simpa using h), List.getElem?_append_right (by simpa using h)]
          rfl
    · rw [List.getElem_set, if_neg (fun e => hqk e.symm), Array.getElem?_setIfInBounds_ne (by omega), e1]
  · rw [Array.getElem?_eq_none (by rw [Array.size_setIfInBounds, hs]; omega), Array.getElem?_eq_none (by rw [hs2]; omega)]
theorem Lg.ep {w : World} {g : Nat} {l : List LR} {k : Nat} (h : Lg w g l) (hk : k < l.length) (ep : Int) :
    Lg (w.setCell ⟨g, k * 12 + 1, none⟩ (.int .i64 ep)) g (l.set k (⟨l[k].1.last, ep, l[k].1.a⟩, l[k].2.1, l[k].2.2)) := by
  refine ⟨by rw [List.length_set]; exact h.1, by rw [← lg_ep hk]; exact h.2.1.store _ _, fun x hx => ?_⟩
  have hkk := kept_set w g (k * 12 + 1) (.int .i64 ep)
  rcases List.mem_or_eq_of_mem_set hx with hx | rfl
  · obtain ⟨h1, h2⟩ := h.2.2 x hx
    exact ⟨h1.own_store h2 hkk, h2⟩
  · obtain ⟨h1, h2⟩ := h.2.2 l[k] (List.getElem_mem hk)
    exact ⟨h1.own_store h2 hkk, h2⟩
theorem rowsOf_ep {l : List LR} {k : Nat} (hk : k < l.length) (ep : Int) : rowsOf (l.set k (⟨l[k].1.last, ep, l[k].1.a⟩, l[k].2.1, l[k].2.2)) = (rowsOf l).set k ⟨(rowAt (rowsOf l) k).last, ep, (rowAt (rowsOf l) k).a⟩ := by
  rw [rowAt_of hk]; unfold rowsOf; rw [List.map_set]
end Go.Proofs.Ytjhndilflcigiaa
