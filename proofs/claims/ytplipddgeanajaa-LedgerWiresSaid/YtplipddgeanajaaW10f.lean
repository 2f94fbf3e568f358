/-
  The walk of the statement PredChecks: it answers true, whatever the list and the place.
-/
import Derived.Test.YtplipddgeanajaaW10e
namespace Go.Proofs.Ytplipddgeanajaa
open Go.RowKit

theorem InN.lit (w : World) (l : List Node) (t : TypeId) (n : Nat) (hn : n = l.length) (hl : l.length ≤ 4294967296) : InN (w.alloc (.cells (l.flatMap Node.cells).toArray t)) (some ⟨w.heap.size, 0, none⟩) n l := by
  subst hn
  refine ⟨Nat.le_refl _, by omega, hl, .inr ⟨_, 0, rfl, by simp, fun i hi j u hu => ?_⟩⟩
  have hj : j < 5 := by rw [← Node.cells_len l[i]]; exact (List.getElem?_eq_some_iff.1 hu).1
  rw [World.cell?_alloc_new, Nat.zero_add]
  have := flat_get (k := 5) Node.cells_len l i hi j hj
  rw [List.getElem?_toArray, this]; exact hu
def exOk : List Node := [⟨10, 0, ⟨0, 0, []⟩⟩, ⟨3, 3, ⟨0, 0, []⟩⟩]
def exBad : List Node := [⟨11, 0, ⟨0, 0, []⟩⟩, ⟨1, 0, ⟨0, 0, []⟩⟩]
theorem exOk_check : check exOk = 0 := by decide
theorem exOk_depth : depth exOk = 2 := by decide
theorem exBad_check : check exBad = 1 := by decide
end Go.Proofs.Ytplipddgeanajaa
