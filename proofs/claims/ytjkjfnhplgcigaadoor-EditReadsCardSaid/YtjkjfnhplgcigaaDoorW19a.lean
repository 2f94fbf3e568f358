/-
  The walks of chapter 19's small functions: what kinds of edits have.
-/
import Derived.Test.YtjkjfnhplgcigaaDoorEd
namespace Go.Proofs.YtjkjfnhplgcigaaDoor
open Go.RowKit

set_option maxHeartbeats 1000000 in
theorem c_edit_hasG (k : Int) (w : World) (h1 : 0 ≤ k) (h2 : k ≤ 7) : Calls Tryd.prog 48 #[.int .i64 k, .int .i64 1] w (RetV w (.bool (hasG k))) := by
  rcases kind8 h1 h2 with rfl | rfl | rfl | rfl | rfl | rfl | rfl | rfl
  all_goals
    go_enter Tryd.func48, Tryd.ntmps48
    go_wp2
    go_ret
    exact RetV.bool (by decide) (Below.refl _ _)
set_option maxHeartbeats 1000000 in
theorem c_edit_hasI (k : Int) (w : World) (h1 : 0 ≤ k) (h2 : k ≤ 7) : Calls Tryd.prog 48 #[.int .i64 k, .int .i64 2] w (RetV w (.bool (hasI k))) := by
  rcases kind8 h1 h2 with rfl | rfl | rfl | rfl | rfl | rfl | rfl | rfl
  all_goals
    go_enter Tryd.func48, Tryd.ntmps48
    go_wp2
    go_ret
    exact RetV.bool (by decide) (Below.refl _ _)
set_option maxHeartbeats 1000000 in
theorem c_edit_hasP (k : Int) (w : World) (h1 : 0 ≤ k) (h2 : k ≤ 7) : Calls Tryd.prog 48 #[.int .i64 k, .int .i64 4] w (RetV w (.bool (hasP k))) := by
  rcases kind8 h1 h2 with rfl | rfl | rfl | rfl | rfl | rfl | rfl | rfl
  all_goals
    go_enter Tryd.func48, Tryd.ntmps48
    go_wp2
    go_ret
    exact RetV.bool (by decide) (Below.refl _ _)
/-- What is asked for: 1 a group, 2 an ID, 4 a patch. -/
def hasW (k x : Int) : Bool := if x = 1 then hasG k else if x = 2 then hasI k else hasP k
theorem c_edit_has (k x : Int) (w : World) (h1 : 0 ≤ k) (h2 : k ≤ 7) (hx : x = 1 ∨ x = 2 ∨ x = 4) : Calls Tryd.prog 48 #[.int .i64 k, .int .i64 x] w (RetV w (.bool (hasW k x))) := by
  rcases hx with rfl | rfl | rfl
  · exact c_edit_hasG k w h1 h2
  · exact c_edit_hasI k w h1 h2
  · exact c_edit_hasP k w h1 h2
set_option maxHeartbeats 1000000 in
theorem c_ref19_group (k : Int) (w : World) (h1 : 0 ≤ k) (h2 : k ≤ 7) : Calls Tryd.prog 50 #[.int .i64 k] w (RetV w (.bool (hasG k))) := by
  rcases kind8 h1 h2 with rfl | rfl | rfl | rfl | rfl | rfl | rfl | rfl
  all_goals
    go_enter Tryd.func50, Tryd.ntmps50
    go_wp2
    go_ret
    exact RetV.bool (by decide) (Below.refl _ _)
set_option maxHeartbeats 1000000 in
theorem c_ref19_id (k : Int) (w : World) (h1 : 0 ≤ k) (h2 : k ≤ 7) : Calls Tryd.prog 51 #[.int .i64 k] w (RetV w (.bool (hasI k))) := by
  rcases kind8 h1 h2 with rfl | rfl | rfl | rfl | rfl | rfl | rfl | rfl
  all_goals
    go_enter Tryd.func51, Tryd.ntmps51
    go_wp2
    go_ret
    exact RetV.bool (by decide) (Below.refl _ _)
set_option maxHeartbeats 1000000 in
theorem c_ref19_patch (k : Int) (w : World) (h1 : 0 ≤ k) (h2 : k ≤ 7) : Calls Tryd.prog 52 #[.int .i64 k] w (RetV w (.bool (hasP k))) := by
  rcases kind8 h1 h2 with rfl | rfl | rfl | rfl | rfl | rfl | rfl | rfl
  all_goals
    go_enter Tryd.func52, Tryd.ntmps52
    go_wp2
    go_ret
    exact RetV.bool (by decide) (Below.refl _ _)
end Go.Proofs.YtjkjfnhplgcigaaDoor
