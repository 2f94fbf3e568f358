/-
  Era, W19h1, W19h2, W19h3, W19k, W19i, W19j, in one text (merge.py).
-/
import Derived.Test.YtiedkcijjfmhaaaDoorSc6
import Derived.Test.YtiedkcijjfmhaaaDoorSc8
import Derived.Test.YtiedkcijjfmhaaaDoorSc10
/-! Era -/
namespace Go.Proofs.YtiedkcijjfmhaaaDoor
open Go.RowKit

theorem putAt_all {tl vs : List Value} (h : tl.length = vs.length) : putAt tl.toArray 0 vs = vs.toArray := by
  apply Array.ext_getElem?
  intro i
  by_cases hi : i < vs.length
  · have := putAt_in vs tl.toArray 0 i (by simp; omega) hi
    rw [Nat.zero_add] at this
    rw [this, List.getElem?_toArray]
  · rw [Array.getElem?_eq_none (by rw [putAt_size]; simp; omega), Array.getElem?_eq_none (by simp; omega)]
theorem Edit.arr_app (k i g : Int) (p : Patch) : Edit.arr ⟨k, i, g, p⟩ = (([.int .i64 k, .int .i64 i, .int .i64 g] : List Value) ++ p.arr.toList).toArray := by unfold Edit.arr Patch.arr; rfl
section
variable {k i g : Int} {p q : Patch}
theorem Edit.putP (h : p.f.length = q.f.length) : putAt (Edit.arr ⟨k, i, g, p⟩) 3 q.arr.toList = Edit.arr ⟨k, i, g, q⟩ := by
  have h1 := p.arr_size
  have h2 := q.arr_size
  have e := putAt_app [.int .i64 k, .int .i64 i, .int .i64 g] p.arr.toList 0 q.arr.toList (by simp; omega)
  have e2 := putAt_all (tl := p.arr.toList) (vs := q.arr.toList) (by simp; omega)
  rw [Edit.arr_app, Edit.arr_app]
  refine e.trans ?_
  rw [e2]
end
theorem Edit.arr_one (c : Edit) : ∀ v ∈ c.arr.toList, v.oneCell' = true := by
  intro v hv
  obtain ⟨k, i, g, p⟩ := c
  rw [Edit.arr_app] at hv
  rw [List.mem_append] at hv
  rcases hv with hv | hv
  · simp only [List.mem_cons, List.not_mem_nil, or_false] at hv
    rcases hv with rfl | rfl | rfl <;> rfl
  · exact Patch.arr_one p v hv
theorem Edit.arr_ones (c : Edit) : (c.arr.all fun x => x.oneCell') = true := by
  rw [Array.all_eq_true]
  exact fun i hi => Edit.arr_one c _ (Array.getElem_mem_toList hi)
end Go.Proofs.YtiedkcijjfmhaaaDoor
/-! W19h1 -/
namespace Go.Proofs.YtiedkcijjfmhaaaDoor
open Go.RowKit

end Go.Proofs.YtiedkcijjfmhaaaDoor
/-! W19h2 -/
namespace Go.Proofs.YtiedkcijjfmhaaaDoor
open Go.RowKit

end Go.Proofs.YtiedkcijjfmhaaaDoor
/-! W19h3 -/
namespace Go.Proofs.YtiedkcijjfmhaaaDoor
open Go.RowKit

end Go.Proofs.YtiedkcijjfmhaaaDoor
/-! W19k -/
namespace Go.Proofs.YtiedkcijjfmhaaaDoor
open Go.RowKit

end Go.Proofs.YtiedkcijjfmhaaaDoor
/-! W19i -/
namespace Go.Proofs.YtiedkcijjfmhaaaDoor
open Go.RowKit

end Go.Proofs.YtiedkcijjfmhaaaDoor
/-! W19j -/
namespace Go.Proofs.YtiedkcijjfmhaaaDoor
open Go.RowKit

end Go.Proofs.YtiedkcijjfmhaaaDoor
