/-
  The statement PredJoins: what is joined of filters is a filter, and its parts are they again: for all two lists the law answers true. No condition beside the form's own.
-/
import Derived.Test.YtoekhnppcakdnaaOpen
import Derived.Test.YtoekhnppcakdnaaW10i
namespace Go.Proofs.Ytoekhnppcakdnaa.clPredJoins
open Go.ChangeShapes Go.WideShapes Go.ChangeAt Go.RowKit Go.Proofs.Ytoekhnppcakdnaa
open Go.ChangeMaps (open_string shut_string)

set_option maxRecDepth 100000 in
theorem contract (H : Type) (enc : TypeId × Value → H) (W : World) (base : Nat) (args : Array Value) (ds gs : List (DataW H)) (before : List MemPlace)
    (hval : ∀ (j : Nat) t v, Try.f6.params[j]? = some t → args[j]? = some v → Value.okWide Try.prog W .any base t v)
    (hW : DataW.Whole enc Try.prog Try.f6.params.toList Rows.predJoinsSpec.vars false W args.toList ds gs before) :
    Calls Try.prog 6 args W fun e W' => ∃ v, e = .returned v ∧ Rows.predJoinsSpec.post enc Try.prog Try.f6 false true false false W args v W' := by
  have hW' := hW
  obtain ⟨p, q, hA0, hV, rfl, hfz, hnd⟩ := hW
  have hA : DataW.TrodAll enc Try.prog W 0 (fun _ => true) true Try.f6.params.toList args.toList ds p := hA0
  clear hA0
  rw [Try.params6] at hA hval
  obtain ⟨v0, v1, d0, d1, p0, p1, rfl, rfl, rfl, h0, h1⟩ := trodAll_two hA
  obtain ⟨rfl, rfl⟩ := trodVars_none hV
  have hpost := fun W' (hb : Below W.heap.size W W') => law_post (f := Try.f6) (s := Rows.predJoinsSpec) laidOut Try.underlying4 (by kernel_rfl) rfl (by kernel_rfl) hW' rfl hb
  obtain ⟨a0, len, cap, rfl⟩ := okWide_slice Try.underlying22 (hval 0 22 v0 rfl rfl)
  obtain ⟨b0, len', cap', rfl⟩ := okWide_slice Try.underlying22 (hval 1 22 v1 rfl rfl)
  obtain ⟨fuel, hf⟩ := h0
  obtain ⟨A, c, l, hcs, hl, hc, hr, hwf, _⟩ := open_nodes hf
  simp only [Value.cells, List.cons.injEq, Value.slice.injEq, and_true] at hcs
  obtain ⟨rfl, rfl, rfl⟩ := hcs
  obtain ⟨fuel', hf'⟩ := h1
  obtain ⟨B, cb, b, hcs, hlb, hcb, hrb, hwfb, _⟩ := open_nodes hf'
  simp only [Value.cells, List.cons.injEq, Value.slice.injEq, and_true] at hcs
  obtain ⟨rfl, rfl, rfl⟩ := hcs
  have hsa : ∀ x ∈ l, x.v.s.length ≤ 9223372036854775807 := fun x hx => (hwf x hx).2.2.2.2
  have hsb : ∀ x ∈ b, x.v.s.length ≤ 9223372036854775807 := fun x hx => (hwfb x hx).2.2.2.2
  obtain ⟨ea, ka, ka0⟩ := check_any l a0 cap W hl hc hr hsa
  obtain ⟨eb, kb, kb0⟩ := check_any b b0 cap' W hlb hcb hrb hsb
  by_cases h : ea = 0 ∧ eb = 0
  · obtain ⟨ia, oka⟩ := ka0 h.1
    obtain ⟨ib, okb⟩ := kb0 h.2
    exact (c_law10_PredJoins l b a0 b0 cap cap' W ia ib hsa hsb oka okb).mono fun e W' ⟨he, hb⟩ => ⟨_, he, hpost W' hb⟩
  · exact (c_law10_PredJoins_bad _ _ ea eb W ka kb (by omega)).mono fun e W' ⟨he, hb⟩ => ⟨_, he, hpost W' hb⟩
set_option maxRecDepth 100000 in
theorem lifted (os : Os) (started : os.Started) (H : Type) (enc : TypeId × Value → H) :
    ReturnsInHanded {} Try.checked os 6 .any (Rows.predJoinsSpec.pre6 enc Try.prog Try.f6 Rows.predJoinsRow.domain false) (Rows.predJoinsSpec.post enc Try.prog Try.f6 false true false false) := by
  refine returnsInHanded_of_change (C := Try.checked) ownKnob_none started (by kernel_rfl) Try.func6
    (ChangeSpec.witness6 (enc := enc) (C := Try.checked) false ⟨#[], #[.slice none 0 0, .slice none 0 0], []⟩ 8 (by kernel_rfl) (by kernel_rfl) (by kernel_rfl) (by kernel_rfl)) ?_
  intro W base args ds gs before hval hW _ _
  exact contract H enc W base args ds gs before hval hW
theorem proved : Rows.PredJoinsSaid :=
  OpenClaim.holds_of_wide 6 Try.f6 rfl rfl rfl rfl rfl rfl rfl ⟨rfl, rfl, rfl, rfl, rfl⟩ rfl rfl rfl rfl rfl (by kernel_rfl) Try.func6 (by kernel_rfl)
    (of_decide_eq_true (by kernel_rfl)) (by unfold Func.isWrapper; rw [if_neg (of_decide_eq_false (by kernel_rfl))]; exact ⟨rfl, rfl⟩)
    (fun os started H enc _ => lifted os started H enc)
end Go.Proofs.Ytoekhnppcakdnaa.clPredJoins
