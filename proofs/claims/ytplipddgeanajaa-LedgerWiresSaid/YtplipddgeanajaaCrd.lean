/-
  The plain data of the cards: eight values, cards, patches, edits; how they lie in memory. No program is looked at here.
-/
import Derived.Test.YtplipddgeanajaaOwn
namespace Go.Proofs.Ytplipddgeanajaa
open Go.RowKit

structure Card where
  id : Int
  ver : Int
  lab : Nat
  f : List Val
deriving DecidableEq
structure Patch where
  mask : Nat
  lab : Nat
  f : List Val
deriving DecidableEq
structure Edit where
  kind : Int
  id : Int
  group : Int
  p : Patch
deriving DecidableEq
theorem val_len (x : Val) : x.cells.length = 3 := rfl
@[irreducible] def farr (f : List Val) : Array Value := (f.flatMap Val.cells).toArray
@[irreducible] def Card.arr (c : Card) : Array Value := (([.int .i64 c.id, .int .i64 c.ver, .int .u32 c.lab] : List Value) ++ c.f.flatMap Val.cells).toArray
@[irreducible] def Patch.arr (p : Patch) : Array Value := (([.int .u32 p.mask, .int .u32 p.lab] : List Value) ++ p.f.flatMap Val.cells).toArray
@[irreducible] def Edit.arr (e : Edit) : Array Value := (([.int .i64 e.kind, .int .i64 e.id, .int .i64 e.group, .int .u32 e.p.mask, .int .u32 e.p.lab] : List Value) ++ e.p.f.flatMap Val.cells).toArray
section
variable {f : List Val} {k : Nat}
theorem vals_get (h : k < f.length) : (f.flatMap Val.cells)[k * 3]? = some (.int .i64 f[k].kind) ∧ (f.flatMap Val.cells)[k * 3 + 1]? = some (.int .i64 f[k].n) ∧ (f.flatMap Val.cells)[k * 3 + 2]? = some (.string (str f[k].s)) := by
  have h0 := flat_get val_len f k h 0 (by omega)
  have h1 := flat_get val_len f k h 1 (by omega)
  have h2 := flat_get val_len f k h 2 (by omega)
  exact ⟨h0, h1, h2⟩
theorem farr_size (f : List Val) : (farr f).size = f.length * 3 := by unfold farr; rw [List.size_toArray, flat_length val_len]
theorem farr_get (h : k < f.length) : (farr f)[k * 3]? = some (.int .i64 f[k].kind) ∧ (farr f)[k * 3 + 1]? = some (.int .i64 f[k].n) ∧ (farr f)[k * 3 + 2]? = some (.string (str f[k].s)) := by
  unfold farr
  simpa using vals_get h
theorem Card.arr_size (c : Card) : c.arr.size = 3 + c.f.length * 3 := by unfold Card.arr; rw [List.size_toArray, List.length_append, flat_length val_len]; rfl
theorem Card.arr_head (c : Card) : c.arr[0]? = some (.int .i64 c.id) ∧ c.arr[1]? = some (.int .i64 c.ver) ∧ c.arr[2]? = some (.int .u32 c.lab) := by
  unfold Card.arr; exact ⟨rfl, rfl, rfl⟩
theorem Card.arr_tail (c : Card) (j : Nat) : c.arr[3 + j]? = (farr c.f)[j]? := by
  unfold Card.arr farr
  rw [List.getElem?_toArray, List.getElem?_toArray, List.getElem?_append_right (by simp)]
  congr 1
  simp
theorem Card.arr_val {c : Card} (h : k < c.f.length) : c.arr[3 + k * 3]? = some (.int .i64 c.f[k].kind) ∧ c.arr[3 + k * 3 + 1]? = some (.int .i64 c.f[k].n) ∧ c.arr[3 + k * 3 + 2]? = some (.string (str c.f[k].s)) := by
  have := farr_get h
  rw [← Card.arr_tail, ← Card.arr_tail, ← Card.arr_tail] at this
  exact this
theorem Patch.arr_size (c : Patch) : c.arr.size = 2 + c.f.length * 3 := by unfold Patch.arr; rw [List.size_toArray, List.length_append, flat_length val_len]; rfl
theorem Patch.arr_head (c : Patch) : c.arr[0]? = some (.int .u32 c.mask) ∧ c.arr[1]? = some (.int .u32 c.lab) := by
  unfold Patch.arr; exact ⟨rfl, rfl⟩
theorem Patch.arr_tail (c : Patch) (j : Nat) : c.arr[2 + j]? = (farr c.f)[j]? := by
  unfold Patch.arr farr
  rw [List.getElem?_toArray, List.getElem?_toArray, List.getElem?_append_right (by simp)]
  congr 1
  simp
theorem Patch.arr_val {c : Patch} (h : k < c.f.length) : c.arr[2 + k * 3]? = some (.int .i64 c.f[k].kind) ∧ c.arr[2 + k * 3 + 1]? = some (.int .i64 c.f[k].n) ∧ c.arr[2 + k * 3 + 2]? = some (.string (str c.f[k].s)) := by
  have := farr_get h
  rw [← Patch.arr_tail, ← Patch.arr_tail, ← Patch.arr_tail] at this
  exact this
theorem Edit.arr_size (c : Edit) : c.arr.size = 5 + c.p.f.length * 3 := by unfold Edit.arr; rw [List.size_toArray, List.length_append, flat_length val_len]; rfl
theorem Edit.arr_head (c : Edit) : c.arr[0]? = some (.int .i64 c.kind) ∧ c.arr[1]? = some (.int .i64 c.id) ∧ c.arr[2]? = some (.int .i64 c.group) := by
  unfold Edit.arr; exact ⟨rfl, rfl, rfl⟩
theorem Edit.arr_tail (c : Edit) (j : Nat) : c.arr[3 + j]? = c.p.arr[j]? := by
  unfold Edit.arr Patch.arr
  rw [List.getElem?_toArray, List.getElem?_toArray]
  show (([_, _, _] : List Value) ++ (([_, _] : List Value) ++ _))[3 + j]? = _
  rw [List.getElem?_append_right (by simp)]
  congr 1
  simp
end
end Go.Proofs.Ytplipddgeanajaa
