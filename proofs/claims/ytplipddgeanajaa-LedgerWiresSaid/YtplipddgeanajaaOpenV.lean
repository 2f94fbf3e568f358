/-
  Arguments opened: values.
-/
import Derived.Test.YtplipddgeanajaaOpenA
namespace Go.Proofs.Ytplipddgeanajaa
open Go.ChangeShapes Go.WideShapes Go.ChangeAt Go.RowKit Go.Deep
open Go.ChangeMaps (open_string shut_string)

def Val.wf (x : Val) : Prop := I64 x.kind ∧ I64 x.n ∧ x.s.length ≤ 9223372036854775807
section
variable {H : Type} {enc : TypeId × Value → H} {w : World} {base : Nat} {spare : Nat → Bool} {held : Bool}
theorem c_value : Try.prog.cellsOf 56 = 3 := by kernel_rfl
theorem open_val {fuel : Nat} {cs : List Value} {x : DataW H × List MemPlace} (h : DataW.trod enc Try.prog w base spare held fuel 56 cs = some x) :
    ∃ v : Val, cs = v.cells ∧ x = (.agg [.lit (.int .i64 v.kind), .lit (.int .i64 v.n), .lit (.string v.s)], []) ∧ v.wf := by
  obtain ⟨xs, n, _, hx, hl, hxl, hf⟩ := DataW.trod_struct Try.underlying56 h
  rw [c_value] at hl
  · obtain ⟨c0, c1, c2, rfl⟩ := list3 hl
    · obtain ⟨x0, x1, x2, rfl⟩ := list3 (show xs.length = 3 from hxl)
      have h0 := hf 0
      have h1 := hf 1
      have h2 := hf 2
      simp [c_int, c_string] at h0 h1 h2
      obtain ⟨a, ha, hxa, wa⟩ := DataW.trod_int Try.underlying3 h0
      obtain ⟨b, hb, hxb, wb⟩ := DataW.trod_int Try.underlying3 h1
      obtain ⟨s, hs, hxs, ws⟩ := DataW.trod_string Try.underlying9 h2
      simp at ha hb hs
      subst ha hb hs hxa hxb hxs
      refine ⟨⟨a, b, s.data.toList⟩, ?_, by rw [hx]; rfl, i64_range wa, i64_range wb, ?_⟩
      · unfold Val.cells; rw [← str_of]
      · unfold maxLen at ws
        have : s.data.toList.length = s.size := by rw [Array.length_toList]; rfl
        show _ ≤ _
        rw [this]; omega
end
end Go.Proofs.Ytplipddgeanajaa
