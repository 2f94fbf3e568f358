/-
  The walk of edit.Check: which edits may be.
-/
import Derived.Test.YtiedkcijjfmhaaaGreatDoorSr2
import Derived.Test.YtiedkcijjfmhaaaGreatDoorSr4
import Derived.Test.YtiedkcijjfmhaaaGreatDoorSr9
namespace Go.Proofs.YtiedkcijjfmhaaaGreatDoor
open Go.RowKit

theorem At.edit {w w1 : World} {e : Edit} (h : At w w1 e.arr) : w1.cell? ⟨w.heap.size, 0, none⟩ = some (.int .i64 e.kind) ∧ w1.cell? ⟨w.heap.size, 1, none⟩ = some (.int .i64 e.id) ∧ w1.cell? ⟨w.heap.size, 2, none⟩ = some (.int .i64 e.group) := by
  obtain ⟨h0, h1, h2⟩ := e.arr_head
  exact ⟨h.2.cell h0, h.2.cell h1, h.2.cell h2⟩
end Go.Proofs.YtiedkcijjfmhaaaGreatDoor
