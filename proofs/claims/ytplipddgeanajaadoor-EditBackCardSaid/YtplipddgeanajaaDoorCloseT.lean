/-
  What a tied card needs beside the row: the listed table of math/bits, as the walks ask for it, and as the start-up code lays it.
-/
import Derived.Test.YtplipddgeanajaaDoorClose
import Derived.Test.YtplipddgeanajaaDoorW05a
import Derived.Test.YtplipddgeanajaaDoorTie
import Derived.Lib.LaidTab
import Derived.LaidMore
import Derived.SevenTiedAt
namespace Go.Proofs.YtplipddgeanajaaDoor
open Go.ChangeShapes Go.WideShapes Go.ChangeAt Go.RowKit

abbrev laidT : List (String × DataW Unit) := [("math/bits.deBruijn32tab", Rows.laid_math_bits_deBruijn32tab)]
theorem door_met (os : Os) (args : Array Value) : laidMetH Tryd.prog laidT ((World.doorLaid Tryd.prog 400 os).forCall (fun _ _ => 0) ⟨#[], args, []⟩).memory :=
  laidMetH_of_parts3 (fuel := 8) (laidMet_of_run' 8 (by kernel_rfl) (by kernel_rfl)) (by kernel_rfl) (by kernel_rfl)
theorem g_tab : Tryd.prog.globalNamed "math/bits.deBruijn32tab" = some 0 := by kernel_rfl
theorem t_tab : (Tryd.prog.globals[0]?).map (·.type) = some 245 := by kernel_rfl
theorem c_tab : Tryd.prog.cellsOf 245 = 32 := by kernel_rfl
theorem c_u8 : Tryd.prog.cellsOf 5 = 1 := by kernel_rfl
theorem tab_of_laid {W : World} (h : laidMetH Tryd.prog laidT W) : Tab W := by
  rw [MakeChecks.laidMetH_plain _ _ _ (by kernel_rfl)] at h
  have hT := Lib.tabIs_of_head (zs := Lib.deBruijn32tab.map Int.ofNat) g_tab t_tab Tryd.underlying245 Tryd.underlying5 c_u8 c_tab h
  intro j hj
  rw [hT.cell g_tab j (by rw [List.length_map]; exact hj)]
  simp [List.getD, hj]
end Go.Proofs.YtplipddgeanajaaDoor
