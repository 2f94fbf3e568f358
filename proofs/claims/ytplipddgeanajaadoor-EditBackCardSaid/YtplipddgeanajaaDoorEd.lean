/-
  Edits, plain: which may be, or why not; their bytes. No program is looked at here, but for the sizes and the equality of edits.
-/
import Derived.Test.YtplipddgeanajaaDoorCb
namespace Go.Proofs.YtplipddgeanajaaDoor
open Go.RowKit

def hasG (k : Int) : Bool := decide (4 ≤ k ∧ k ≤ 7)
def hasI (k : Int) : Bool := decide (k = 2 ∨ k = 3 ∨ k = 6 ∨ k = 7)
def hasP (k : Int) : Bool := decide (k = 1 ∨ k = 2)
def Edit.gOk (e : Edit) : Bool := decide (0 ≤ e.group ∧ e.group < 16) && (hasG e.kind || decide (e.group = 0))
def Edit.iOk (e : Edit) : Bool := if hasI e.kind then decide (1 ≤ e.id ∧ e.id < 1073741824) else decide (e.id = 0)
def Edit.code (e : Edit) : Int := if 1 ≤ e.kind ∧ e.kind ≤ 7 ∧ e.gOk = true ∧ e.iOk = true then (if hasP e.kind then e.p.code else if e.p = pz then 0 else 1) else 1
def editB (e : Edit) : List UInt8 := if e.code = 0 then num e.kind ++ (if hasG e.kind then num e.group else []) ++ (if hasI e.kind then num e.id else []) ++ (if hasP e.kind then patchB e.p else []) else []
theorem Edit.code_kind {e : Edit} (h : ¬ (1 ≤ e.kind ∧ e.kind ≤ 7)) : e.code = 1 := by unfold Edit.code; rw [if_neg]; intro h'; exact h ⟨h'.1, h'.2.1⟩
theorem Edit.code_g {e : Edit} (h : e.gOk = false) : e.code = 1 := by unfold Edit.code; rw [if_neg]; intro h'; rw [h] at h'; simp at h'
theorem Edit.code_i {e : Edit} (h : e.iOk = false) : e.code = 1 := by unfold Edit.code; rw [if_neg]; intro h'; rw [h] at h'; simp at h'
theorem Edit.code_p {e : Edit} (h1 : 1 ≤ e.kind) (h2 : e.kind ≤ 7) (hg : e.gOk = true) (hi : e.iOk = true) : e.code = if hasP e.kind then e.p.code else if e.p = pz then 0 else 1 := by
  unfold Edit.code; rw [if_pos ⟨h1, h2, hg, hi⟩]
theorem Edit.code_zero {e : Edit} (h : e.code = 0) : 1 ≤ e.kind ∧ e.kind ≤ 7 ∧ e.gOk = true ∧ e.iOk = true ∧ (hasP e.kind = true → e.p.code = 0) ∧ (hasP e.kind = false → e.p = pz) := by
  unfold Edit.code at h
  split at h
  · rename_i h'
    refine ⟨h'.1, h'.2.1, h'.2.2.1, h'.2.2.2, fun hp => ?_, fun hp => ?_⟩
    · rw [if_pos hp] at h; exact h
    · rw [hp] at h
      by_cases hz : e.p = pz
      · exact hz
      · rw [if_neg (by decide), if_neg hz] at h; cases h
  · cases h
theorem kind8 {k : Int} (h1 : 0 ≤ k) (h2 : k ≤ 7) : k = 0 ∨ k = 1 ∨ k = 2 ∨ k = 3 ∨ k = 4 ∨ k = 5 ∨ k = 6 ∨ k = 7 := by omega
theorem strE : Str Tryd.prog 29 29 := ⟨⟨_, Tryd.underlying29, rfl⟩, by kernel_rfl⟩
theorem Edit.part {e : Edit} {w : World} {g : Nat} (h : Blk w g e.arr) (j : Nat) (u : Value) (hu : e.p.arr[j]? = some u) : w.cell? ⟨g, 3 + j, none⟩ = some u := h.cell (by rw [Edit.arr_tail]; exact hu)
theorem pz_cells : pz.arr = (#[.int .u32 0, .int .u32 0, .int .i64 0, .int .i64 0, .string (str []), .int .i64 0, .int .i64 0, .string (str []), .int .i64 0, .int .i64 0, .string (str []), .int .i64 0, .int .i64 0, .string (str []), .int .i64 0, .int .i64 0, .string (str []), .int .i64 0, .int .i64 0, .string (str []), .int .i64 0, .int .i64 0, .string (str []), .int .i64 0, .int .i64 0, .string (str [])] : Array Value) := by
  unfold Patch.arr; rfl
theorem Edit.arr_extract {e : Edit} (hf : e.p.f.length = 8) : e.arr.extract 3 (3 + 26) = e.p.arr := by
  have h1 := e.arr_size
  have h2 := e.p.arr_size
  apply Array.ext_getElem?
  intro i
  rw [Array.getElem?_extract]
  by_cases hi : i < 26
  · rw [if_pos (by omega), Edit.arr_tail]
  · rw [if_neg (by omega), Array.getElem?_eq_none (by omega)]
theorem f_edit : (Tryd.prog.fieldsOf 29).toList.map (fun f => (f.name == "_", f.type, f.offset)) = [(false, 3, 0), (false, 3, 1), (false, 3, 2), (false, 27, 3)] := by kernel_rfl
theorem u_edit : Tryd.prog.underlying 29 = some (.struct (Tryd.prog.fieldsOf 29)) := by kernel_rfl
theorem h_edit : Tryd.prog.stoodInHeld 29 = false := by kernel_rfl
set_option maxRecDepth 100000 in
theorem eq_edit {x y : Edit} (hf : x.p.f.length = 8) (hg : y.p.f.length = 8) (d : Nat) (w : World) : (Op.equalIn (d + 5) 29 (.agg x.arr) (.agg y.arr)).run Tryd.prog w = .ok (decide (x = y)) w := by
  obtain ⟨x0, x1, x2⟩ := x.arr_head
  obtain ⟨y0, y1, y2⟩ := y.arr_head
  have px := part_agg (P := Tryd.prog) (w := w) strP x.arr 3
  have py := part_agg (P := Tryd.prog) (w := w) strP y.arr 3
  rw [Edit.arr_extract (by assumption)] at px py
  have h : (eqF (d + 4) x.arr y.arr [(false, 3, 0), (false, 3, 1), (false, 3, 2), (false, 27, 3)]).run Tryd.prog w = .ok (x.kind == y.kind && (x.id == y.id && (x.group == y.group && (decide (x.p = y.p) && true)))) w :=
    eqF_cons _ _ _ _ _ _ (run_part_plain w plain3 x0) (run_part_plain w plain3 y0) (run_equalIn_int w _ _ _ _ _ _ Tryd.underlying3)
    (eqF_cons _ _ _ _ _ _ (run_part_plain w plain3 x1) (run_part_plain w plain3 y1) (run_equalIn_int w _ _ _ _ _ _ Tryd.underlying3)
    (eqF_cons _ _ _ _ _ _ (run_part_plain w plain3 x2) (run_part_plain w plain3 y2) (run_equalIn_int w _ _ _ _ _ _ Tryd.underlying3)
      (eqF_cons _ _ _ _ _ _ px py (eq_patch hf hg d w) (eqF_nil _ _ _))))
  rw [eqS (d + 4) _ _ _ u_edit h_edit f_edit h]
  congr 1
  rw [Bool.eq_iff_iff]
  obtain ⟨a, b, c, e⟩ := x
  obtain ⟨a', b', c', e'⟩ := y
  simp
end Go.Proofs.YtplipddgeanajaaDoor
