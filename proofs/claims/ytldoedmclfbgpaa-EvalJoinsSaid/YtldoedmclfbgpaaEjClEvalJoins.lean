/-
  The statement EvalJoins: a filter that is joined by Not says the other thing, one by And what both parts say, one by Or what one says: for all two lists, every card and all groups the law answers true. No condition beside the form's own.
-/
import Derived.Test.YtldoedmclfbgpaaEj1
import Derived.Test.YtldoedmclfbgpaaEj5
import Derived.Test.YtldoedmclfbgpaaEj6
import Derived.HandedShaped
namespace Go.Proofs.Ytldoedmclfbgpaa.clEvalJoins
open Go.ChangeShapes Go.WideShapes Go.ChangeAt Go.RowKit Go.Proofs.Ytldoedmclfbgpaa
open Go.ChangeMaps (open_string shut_string)

set_option maxRecDepth 100000 in
theorem contract (H : Type) (enc : TypeId × Value → H) (W : World) (base : Nat) (args : Array Value) (ds gs : List (DataW H)) (before : List MemPlace)
    (hval : ∀ (j : Nat) t v, Try.f4.params[j]? = some t → args[j]? = some v → Value.okWide Try.prog W .any base t v)
    (hW : DataW.Whole enc Try.prog Try.f4.params.toList Rows.evalJoinsSpec.vars false W args.toList ds gs before)
    (hM : MaxV W) :
    Calls Try.prog 4 args W fun e W' => ∃ v, e = .returned v ∧ Rows.evalJoinsSpec.post enc Try.prog Try.f4 false true false false W args v W' := by
  have hW' := hW
  obtain ⟨p, q, hA0, hV, rfl, hfz, hnd⟩ := hW
  have hA : DataW.TrodAll enc Try.prog W 0 (fun _ => true) true Try.f4.params.toList args.toList ds p := hA0
  clear hA0
  rw [Try.params4] at hA hval
  obtain ⟨v0, v1, v2, d0, d1, d2, p0, p1, p2, rfl, rfl, rfl, h0, h1, h2⟩ := trodAll_three hA
  obtain ⟨rfl, rfl⟩ := trodVars_none hV
  have hpost := fun W' (hb : Below W.heap.size W W') => law_post (f := Try.f4) (s := Rows.evalJoinsSpec) laidOut Try.underlying4 (by kernel_rfl) rfl (by kernel_rfl) hW' rfl hb
  obtain ⟨a0, len, cap, rfl⟩ := okWide_slice Try.underlying33 (hval 0 33 v0 rfl rfl)
  obtain ⟨b0, len', cap', rfl⟩ := okWide_slice Try.underlying33 (hval 1 33 v1 rfl rfl)
  obtain ⟨c1, rfl, _⟩ := okWide_struct Try.underlying41 (hval 2 41 v2 rfl rfl)
  obtain ⟨fuel0, hf0⟩ := h0
  obtain ⟨fuel1, hf1⟩ := h1
  obtain ⟨fuel2, hf2⟩ := h2
  obtain ⟨A, n, l, hcs, hl, hc, hr, hwf, _⟩ := open_nodes hf0
  simp only [Value.cells, List.cons.injEq, Value.slice.injEq, and_true] at hcs
  obtain ⟨rfl, rfl, rfl⟩ := hcs
  obtain ⟨B, m, b, hcs, hlb, hcb, hrb, hwfb, _⟩ := open_nodes hf1
  simp only [Value.cells, List.cons.injEq, Value.slice.injEq, and_true] at hcs
  obtain ⟨rfl, rfl, rfl⟩ := hcs
  obtain ⟨c, g, hcc, hc8, hcl, hg⟩ := open_asked hf2
  obtain rfl : c1 = askA c g := Array.toList_inj.1 hcc
  obtain ⟨ea, ka, ka0⟩ := check_any l a0 cap W hl hc hr (fun x hx => (hwf x hx).2.2.2.2)
  obtain ⟨eb, kb, kb0⟩ := check_any b b0 cap' W hlb hcb hrb (fun x hx => (hwfb x hx).2.2.2.2)
  by_cases h : ea = 0 ∧ eb = 0
  · obtain ⟨rfl, rfl⟩ := h
    obtain ⟨ia, oka⟩ := ka0 rfl
    obtain ⟨ib, okb⟩ := kb0 rfl
    cases hf : longF c.f
    case true => exact (law13_EvalJoins_long _ _ c g W ka kb hc8 hf hM).mono fun e W' ⟨he, hb⟩ => ⟨_, he, hpost W' hb⟩
    case false =>
    obtain ⟨ta, wa, rfl, la, na⟩ := Tr.of_check oka
    obtain ⟨tb, wb, rfl, lb, nb⟩ := Tr.of_check okb
    exact (law13_EvalJoins_main ta tb wa wb na nb oka okb la lb a0 b0 cap cap' c g W ia ib hc8 hcl hg hf hM).mono fun e W' ⟨he, hb⟩ => ⟨_, he, hpost W' hb⟩
  · exact (law13_EvalJoins_bad _ _ ea eb _ W ka kb (by omega) hM).mono fun e W' ⟨he, hb⟩ => ⟨_, he, hpost W' hb⟩
set_option maxRecDepth 100000 in
theorem lifted (os : Os) (started : os.Started) (H : Type) (enc : TypeId × Value → H) :
    ReturnsInHanded {} Try.checked os 4 .any (Rows.evalJoinsSpec.pre6 enc Try.prog Try.f4 Rows.evalJoinsRow.domain false) (Rows.evalJoinsSpec.post enc Try.prog Try.f4 false true false false) := by
  refine returnsInHanded_of_change_shaped (C := Try.checked) ownKnob_none started (by kernel_rfl) Try.func4
    (ChangeSpec.witness6 (enc := enc) (C := Try.checked) false ⟨#[], #[.slice none 0 0, .slice none 0 0, .agg (askA ⟨0, 0, 0, List.replicate 8 ⟨0, 0, []⟩⟩ 0)], []⟩ 8 (by kernel_rfl) (by kernel_rfl) (by kernel_rfl) (by kernel_rfl)) ?_
  intro W base args ds gs before hval hW _ _ hsh _
  exact contract H enc W base args ds gs before hval hW (MaxV.of hsh)
theorem proved : Rows.EvalJoinsSaid :=
  OpenClaim.holds_of_wide 4 Try.f4 rfl rfl rfl rfl rfl rfl rfl ⟨rfl, rfl, rfl, rfl, rfl⟩ rfl rfl rfl rfl rfl (by kernel_rfl) Try.func4 (by kernel_rfl)
    (of_decide_eq_true (by kernel_rfl)) (by unfold Func.isWrapper; rw [if_neg (of_decide_eq_false (by kernel_rfl))]; exact ⟨rfl, rfl⟩)
    (fun os started H enc _ => lifted os started H enc)
end Go.Proofs.Ytldoedmclfbgpaa.clEvalJoins
