/-
  Cards and patches in memory, when a part is stored. No program is looked at here.
-/
import Derived.Test.YtplipddgeanajaaDoorW08h
namespace Go.Proofs.YtplipddgeanajaaDoor
open Go.RowKit

theorem putAt_app (hd tl : List Value) (j : Nat) (vs : List Value) (h : j + vs.length ≤ tl.length) : putAt (hd ++ tl).toArray (hd.length + j) vs = (hd ++ (putAt tl.toArray j vs).toList).toArray := by
  apply Array.ext_getElem?
  intro i
  have e : (hd ++ (putAt tl.toArray j vs).toList).toArray[i]? = (hd ++ (putAt tl.toArray j vs).toList)[i]? := by simp only [List.getElem?_toArray]
  rw [e]
  clear e
  by_cases hi : i < hd.length
  · rw [putAt_far _ _ _ _ (.inl (by omega)), List.getElem?_append_left hi, List.getElem?_toArray, List.getElem?_append_left hi]
  · obtain ⟨q, rfl⟩ : ∃ q, i = hd.length + q := ⟨i - hd.length, by omega⟩
    rw [List.getElem?_append_right (by omega), Nat.add_sub_cancel_left, Array.getElem?_toList]
    by_cases h1 : q < j ∨ j + vs.length ≤ q
    · rw [putAt_far _ _ _ _ (by omega), putAt_far _ _ _ _ h1, List.getElem?_toArray, List.getElem?_append_right (by omega), Nat.add_sub_cancel_left, List.getElem?_toArray]
    · obtain ⟨r, rfl⟩ : ∃ r, q = j + r := ⟨q - j, by omega⟩
      rw [← Nat.add_assoc, putAt_in _ _ _ _ (by simp; omega) (by omega), putAt_in _ _ _ _ (by simp; omega) (by omega)]
theorem farr_list (f : List Val) : (farr f).toList = f.flatMap Val.cells := by unfold farr; rfl
theorem farr_all {f g : List Val} (h : f.length = g.length) : putAt (farr f) 0 (farr g).toList = farr g := by
  have h1 := farr_size f
  have h2 := farr_size g
  apply Array.ext_getElem?
  intro i
  by_cases hi : i < g.length * 3
  · have := putAt_in (farr g).toList (farr f) 0 i (by rw [Array.length_toList]; omega) (by rw [Array.length_toList]; omega)
    rw [Nat.zero_add] at this
    rw [this, Array.getElem?_toList]
  · rw [Array.getElem?_eq_none (by rw [putAt_size]; omega), Array.getElem?_eq_none (by omega)]
theorem flat_size (f : List Val) : (f.flatMap Val.cells).length = f.length * 3 := flat_length val_len f
section
variable {a b : Int} {l m : Nat} {f g : List Val}
theorem Card.put0 (v : Int) : (Card.arr ⟨a, b, l, f⟩).setIfInBounds 0 (.int .i64 v) = Card.arr ⟨v, b, l, f⟩ := by unfold Card.arr; simp
theorem Card.put1 (v : Int) : (Card.arr ⟨a, b, l, f⟩).setIfInBounds 1 (.int .i64 v) = Card.arr ⟨a, v, l, f⟩ := by unfold Card.arr; simp
theorem Card.put2 (v : Nat) : (Card.arr ⟨a, b, l, f⟩).setIfInBounds 2 (.int .u32 v) = Card.arr ⟨a, b, v, f⟩ := by unfold Card.arr; simp
theorem Card.putF (h : f.length = g.length) : putAt (Card.arr ⟨a, b, l, f⟩) 3 (farr g).toList = Card.arr ⟨a, b, l, g⟩ := by
  have e := putAt_app [.int .i64 a, .int .i64 b, .int .u32 l] (f.flatMap Val.cells) 0 (farr g).toList (by rw [farr_list, flat_size, flat_size]; omega)
  have e2 := farr_all h
  unfold farr at e2
  unfold Card.arr
  refine e.trans ?_
  unfold farr
  rw [e2]
theorem Card.putV {k : Nat} (h : k < f.length) (x : Val) : putAt (Card.arr ⟨a, b, l, f⟩) (3 + k * 3) [.int .i64 x.kind, .int .i64 x.n, .string (str x.s)] = Card.arr ⟨a, b, l, f.set k x⟩ := by
  have e := putAt_app [.int .i64 a, .int .i64 b, .int .u32 l] (f.flatMap Val.cells) (k * 3) [.int .i64 x.kind, .int .i64 x.n, .string (str x.s)] (by rw [flat_size]; simp; omega)
  have e2 := farr_put h x
  unfold farr at e2
  unfold Card.arr
  refine e.trans ?_
  rw [e2]
theorem Patch.put0 (v : Nat) : (Patch.arr ⟨m, l, f⟩).setIfInBounds 0 (.int .u32 v) = Patch.arr ⟨v, l, f⟩ := by unfold Patch.arr; simp
theorem Patch.put1 (v : Nat) : (Patch.arr ⟨m, l, f⟩).setIfInBounds 1 (.int .u32 v) = Patch.arr ⟨m, v, f⟩ := by unfold Patch.arr; simp
theorem Patch.putF (h : f.length = g.length) : putAt (Patch.arr ⟨m, l, f⟩) 2 (farr g).toList = Patch.arr ⟨m, l, g⟩ := by
  have e := putAt_app [.int .u32 m, .int .u32 l] (f.flatMap Val.cells) 0 (farr g).toList (by rw [farr_list, flat_size, flat_size]; omega)
  have e2 := farr_all h
  unfold farr at e2
  unfold Patch.arr
  refine e.trans ?_
  unfold farr
  rw [e2]
theorem Patch.putV {k : Nat} (h : k < f.length) (x : Val) : putAt (Patch.arr ⟨m, l, f⟩) (2 + k * 3) [.int .i64 x.kind, .int .i64 x.n, .string (str x.s)] = Patch.arr ⟨m, l, f.set k x⟩ := by
  have e := putAt_app [.int .u32 m, .int .u32 l] (f.flatMap Val.cells) (k * 3) [.int .i64 x.kind, .int .i64 x.n, .string (str x.s)] (by rw [flat_size]; simp; omega)
  have e2 := farr_put h x
  unfold farr at e2
  unfold Patch.arr
  refine e.trans ?_
  rw [e2]
end
theorem Card.arr_one (c : Card) : ∀ v ∈ c.arr.toList, v.oneCell' = true := by
  intro v hv
  unfold Card.arr at hv
  rw [List.mem_append] at hv
  rcases hv with hv | hv
  · simp only [List.mem_cons, List.not_mem_nil, or_false] at hv
    rcases hv with rfl | rfl | rfl <;> rfl
  · exact farr_one c.f v (by rw [farr_list]; exact hv)
theorem Patch.arr_one (c : Patch) : ∀ v ∈ c.arr.toList, v.oneCell' = true := by
  intro v hv
  unfold Patch.arr at hv
  rw [List.mem_append] at hv
  rcases hv with hv | hv
  · simp only [List.mem_cons, List.not_mem_nil, or_false] at hv
    rcases hv with rfl | rfl <;> rfl
  · exact farr_one c.f v (by rw [farr_list]; exact hv)
theorem Card.arr_ones (c : Card) : (c.arr.all fun x => x.oneCell') = true := by
  rw [Array.all_eq_true]
  exact fun i hi => Card.arr_one c _ (Array.getElem_mem_toList hi)
theorem Patch.arr_ones (c : Patch) : (c.arr.all fun x => x.oneCell') = true := by
  rw [Array.all_eq_true]
  exact fun i hi => Patch.arr_one c _ (Array.getElem_mem_toList hi)
/-- The table's block is no reader's. -/
theorem RdP.tab {w : World} {p : Option Nat} {st : Rd} (h : RdP w p st) (hT : Tab w) : p ≠ some 0 := by
  rintro rfl
  obtain ⟨A, c, B, pos, ha, -⟩ := h.at
  have h0 := ha.1.cell (i := 0) rfl
  have h1 := hT 0 (by decide)
  rw [h1] at h0
  simp at h0
end Go.Proofs.YtplipddgeanajaaDoor
