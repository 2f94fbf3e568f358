/-
  The example of chapter 19's statements; lengths of edits' bytes.
-/
import Derived.Test.YtjkjfnhplgcigaaDoorW19e
namespace Go.Proofs.YtjkjfnhplgcigaaDoor
open Go.RowKit

def awakeE : Edit := ⟨6, 5, 2, pz⟩
theorem awakeE_arr : awakeE.arr = #[.int .i64 6, .int .i64 5, .int .i64 2, .int .u32 0, .int .u32 0, .int .i64 0, .int .i64 0, .string (str []), .int .i64 0, .int .i64 0, .string (str []), .int .i64 0, .int .i64 0, .string (str []), .int .i64 0, .int .i64 0, .string (str []), .int .i64 0, .int .i64 0, .string (str []), .int .i64 0, .int .i64 0, .string (str []), .int .i64 0, .int .i64 0, .string (str []), .int .i64 0, .int .i64 0, .string (str [])] := by unfold Edit.arr; rfl
theorem awakeE_put : editB awakeE = [6, 2, 5] := by decide +kernel
set_option maxHeartbeats 1000000 in
set_option maxRecDepth 100000 in
theorem c_law19_awake (w : World) (hT : Tab w) : Calls Tryd.prog 13 #[] w (RetV w (.bool true)) := by
  have hp := c_edit_Put [] none 0 awakeE w (In.nil (by omega)) (by simp) hT rfl (by decide) (by decide)
  rw [awakeE_arr] at hp
  have HP := Lib.hid hp
  clear hp
  go_enter Tryd.func13, Tryd.ntmps13
  go_wp2_with (fail)
  refine HP.out.mono ?_
  rintro e w5 ⟨v5, rfl, own5, hb5⟩
  rw [List.nil_append, awakeE_put] at own5
  obtain ⟨A2, c2, rfl, in2⟩ := In.of_own bc_len own5 (by simp)
  have kc : (convert 30 9 (.slice A2 3 c2)).run Tryd.prog w5 = .ok (.string (str [6, 2, 5])) w5 := conv_str w5 Tryd.underlying30 Tryd.underlying5 Tryd.underlying9 in2
  clear own5 in2
  go_wp2_with (fail)
  go_ret
  exact RetV.bool rfl hb5
theorem editB_len (e : Edit) : (editB e).length ≤ 353 := by
  have h1 := (num_len e.kind).2
  have h2 := (num_len e.group).2
  have h3 := (num_len e.id).2
  have h4 := patchB_len e.p
  unfold editB
  cases hasG e.kind <;> cases hasI e.kind <;> cases hasP e.kind <;> split <;> simp <;> omega
theorem Edit.fpart {e : Edit} {w : World} {g : Nat} (h : Blk w g e.arr) (j : Nat) (u : Value) (hu : (farr e.p.f)[j]? = some u) : w.cell? ⟨g, 5 + j, none⟩ = some u := by
  have := Edit.part h (2 + j) u (by rw [Patch.arr_tail]; exact hu)
  rwa [← Nat.add_assoc] at this
end Go.Proofs.YtjkjfnhplgcigaaDoor
