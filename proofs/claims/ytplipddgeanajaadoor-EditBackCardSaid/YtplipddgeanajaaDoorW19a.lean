/-
  The walks of chapter 19's small functions: what kinds of edits have.
-/
import Derived.Test.YtplipddgeanajaaDoorEd
namespace Go.Proofs.YtplipddgeanajaaDoor
open Go.RowKit

set_option maxHeartbeats 1000000 in
theorem c_edit_hasG (k : Int) (w : World) (h1 : 0 ≤ k) (h2 : k ≤ 7) : Calls Tryd.prog 53 #[.int .i64 k, .int .i64 1] w (RetV w (.bool (hasG k))) := by
  rcases kind8 h1 h2 with rfl | rfl | rfl | rfl | rfl | rfl | rfl | rfl
  all_goals
    go_enter Tryd.func53, Tryd.ntmps53
    go_wp2
    go_ret
    exact RetV.bool (by decide) (Below.refl _ _)
set_option maxHeartbeats 1000000 in
theorem c_edit_hasI (k : Int) (w : World) (h1 : 0 ≤ k) (h2 : k ≤ 7) : Calls Tryd.prog 53 #[.int .i64 k, .int .i64 2] w (RetV w (.bool (hasI k))) := by
  rcases kind8 h1 h2 with rfl | rfl | rfl | rfl | rfl | rfl | rfl | rfl
  all_goals
    go_enter Tryd.func53, Tryd.ntmps53
    go_wp2
    go_ret
    exact RetV.bool (by decide) (Below.refl _ _)
set_option maxHeartbeats 1000000 in
theorem c_edit_hasP (k : Int) (w : World) (h1 : 0 ≤ k) (h2 : k ≤ 7) : Calls Tryd.prog 53 #[.int .i64 k, .int .i64 4] w (RetV w (.bool (hasP k))) := by
  rcases kind8 h1 h2 with rfl | rfl | rfl | rfl | rfl | rfl | rfl | rfl
  all_goals
    go_enter Tryd.func53, Tryd.ntmps53
    go_wp2
    go_ret
    exact RetV.bool (by decide) (Below.refl _ _)
/-- What is asked for: 1 a group, 2 an ID, 4 a patch. -/
def hasW (k x : Int) : Bool := if x = 1 then hasG k else if x = 2 then hasI k else hasP k
theorem c_edit_has (k x : Int) (w : World) (h1 : 0 ≤ k) (h2 : k ≤ 7) (hx : x = 1 ∨ x = 2 ∨ x = 4) : Calls Tryd.prog 53 #[.int .i64 k, .int .i64 x] w (RetV w (.bool (hasW k x))) := by
  rcases hx with rfl | rfl | rfl
  · exact c_edit_hasG k w h1 h2
  · exact c_edit_hasI k w h1 h2
  · exact c_edit_hasP k w h1 h2
set_option maxHeartbeats 1000000 in
theorem c_ref19_group (k : Int) (w : World) (h1 : 0 ≤ k) (h2 : k ≤ 7) : Calls Tryd.prog 56 #[.int .i64 k] w (RetV w (.bool (hasG k))) := by
  rcases kind8 h1 h2 with rfl | rfl | rfl | rfl | rfl | rfl | rfl | rfl
  all_goals
    go_enter Tryd.func56, Tryd.ntmps56
    go_wp2
    go_ret
    exact RetV.bool (by decide) (Below.refl _ _)
set_option maxHeartbeats 1000000 in
theorem c_ref19_id (k : Int) (w : World) (h1 : 0 ≤ k) (h2 : k ≤ 7) : Calls Tryd.prog 57 #[.int .i64 k] w (RetV w (.bool (hasI k))) := by
  rcases kind8 h1 h2 with rfl | rfl | rfl | rfl | rfl | rfl | rfl | rfl
  all_goals
    go_enter Tryd.func57, Tryd.ntmps57
    go_wp2
    go_ret
    exact RetV.bool (by decide) (Below.refl _ _)
set_option maxHeartbeats 1000000 in
theorem c_ref19_patch (k : Int) (w : World) (h1 : 0 ≤ k) (h2 : k ≤ 7) : Calls Tryd.prog 58 #[.int .i64 k] w (RetV w (.bool (hasP k))) := by
  rcases kind8 h1 h2 with rfl | rfl | rfl | rfl | rfl | rfl | rfl | rfl
  all_goals
    go_enter Tryd.func58, Tryd.ntmps58
    go_wp2
    go_ret
    exact RetV.bool (by decide) (Below.refl _ _)
end Go.Proofs.YtplipddgeanajaaDoor
