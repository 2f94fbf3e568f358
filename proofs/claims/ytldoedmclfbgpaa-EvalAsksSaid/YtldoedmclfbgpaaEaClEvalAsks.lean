/-
  The statement EvalAsks: of cards that are alike in what a filter asks for it says the same: for every list, two cards, and two sets of groups the law answers true. No condition beside the form's own.
-/
import Derived.Test.YtldoedmclfbgpaaEa1
import Derived.Test.YtldoedmclfbgpaaEa6
import Derived.HandedShaped
namespace Go.Proofs.Ytldoedmclfbgpaa.clEvalAsks
open Go.ChangeShapes Go.WideShapes Go.ChangeAt Go.RowKit Go.Proofs.Ytldoedmclfbgpaa
open Go.ChangeMaps (open_string shut_string)

theorem okWide_arr {P : Program} {w : World} {r : Reach} {base : Nat} {t e : TypeId} {n : Nat} {v : Value} (ht : P.underlying t = some (.array n e)) (h : Value.okWide P w r base t v) : ∃ cs, v = .agg cs ∧ cs.size = P.cellsOf t := by
  simp only [Value.okWide, ht] at h
  obtain ⟨cs, h1, h2, _⟩ := h
  exact ⟨cs, h1, h2⟩
set_option maxRecDepth 100000 in
theorem contract (H : Type) (enc : TypeId × Value → H) (W : World) (base : Nat) (args : Array Value) (ds gs : List (DataW H)) (before : List MemPlace)
    (hval : ∀ (j : Nat) t v, Try.f8.params[j]? = some t → args[j]? = some v → Value.okWide Try.prog W .any base t v)
    (hW : DataW.Whole enc Try.prog Try.f8.params.toList Rows.evalAsksSpec.vars false W args.toList ds gs before)
    (hM : MaxV W) :
    Calls Try.prog 8 args W fun e W' => ∃ v, e = .returned v ∧ Rows.evalAsksSpec.post enc Try.prog Try.f8 false true false false W args v W' := by
  have hW' := hW
  obtain ⟨p, q, hA0, hV, rfl, hfz, hnd⟩ := hW
  have hA : DataW.TrodAll enc Try.prog W 0 (fun _ => true) true Try.f8.params.toList args.toList ds p := hA0
  clear hA0
  rw [Try.params8] at hA hval
  obtain ⟨v0, v1, v2, d0, d1, d2, p0, p1, p2, rfl, rfl, rfl, h0, h1, h2⟩ := trodAll_three hA
  obtain ⟨rfl, rfl⟩ := trodVars_none hV
  have hpost := fun W' (hb : Below W.heap.size W W') => law_post (f := Try.f8) (s := Rows.evalAsksSpec) laidOut Try.underlying4 (by kernel_rfl) rfl (by kernel_rfl) hW' rfl hb
  obtain ⟨a0, len, cap, rfl⟩ := okWide_slice Try.underlying33 (hval 0 33 v0 rfl rfl)
  obtain ⟨c1, rfl, _⟩ := okWide_arr Try.underlying67 (hval 1 67 v1 rfl rfl)
  obtain ⟨c2, rfl, _⟩ := okWide_arr Try.underlying68 (hval 2 68 v2 rfl rfl)
  obtain ⟨fuel0, hf0⟩ := h0
  obtain ⟨fuel1, hf1⟩ := h1
  obtain ⟨fuel2, hf2⟩ := h2
  obtain ⟨A, n, l, hcs, hl, hc, hr, hwf, _⟩ := open_nodes hf0
  simp only [Value.cells, List.cons.injEq, Value.slice.injEq, and_true] at hcs
  obtain ⟨rfl, rfl, rfl⟩ := hcs
  obtain ⟨c, d, hcc, ⟨hc8, hcl⟩, hd8, hdl, hdv⟩ := open_card2 hf1
  obtain ⟨g, h, hgg, hg, hh⟩ := open_two32 hf2
  obtain rfl : c1 = arr2c c d := Array.toList_inj.1 hcc
  obtain rfl : c2 = #[.int .u32 g, .int .u32 h] := Array.toList_inj.1 hgg
  obtain ⟨ea, ka, ka0⟩ := check_any l a0 cap W hl hc hr (fun x hx => (hwf x hx).2.2.2.2)
  by_cases he : ea = 0
  · subst he
    obtain ⟨ia, oka⟩ := ka0 rfl
    cases hf : longF c.f
    case true => exact (law13_EvalAsks_long0 _ c d g h W ka hc8 hf hM).mono fun e W' ⟨he, hb⟩ => ⟨_, he, hpost W' hb⟩
    case false =>
    cases hf1 : longF d.f
    case true => exact (law13_EvalAsks_long1 _ c d g h W ka hc8 hf hd8 hf1 hM).mono fun e W' ⟨he, hb⟩ => ⟨_, he, hpost W' hb⟩
    case false =>
    obtain ⟨t, wt, rfl, -, nt⟩ := Tr.of_check oka
    exact (law13_EvalAsks_main t wt nt oka a0 cap c d g h W ia hc8 hcl hf hd8 hdl hdv hf1 hg hh hM).mono fun e W' ⟨he, hb⟩ => ⟨_, he, hpost W' hb⟩
  · exact (law13_EvalAsks_bad _ ea _ _ W ka he hM).mono fun e W' ⟨he, hb⟩ => ⟨_, he, hpost W' hb⟩
set_option maxRecDepth 100000 in
theorem lifted (os : Os) (started : os.Started) (H : Type) (enc : TypeId × Value → H) :
    ReturnsInHanded {} Try.checked os 8 .any (Rows.evalAsksSpec.pre6 enc Try.prog Try.f8 Rows.evalAsksRow.domain false) (Rows.evalAsksSpec.post enc Try.prog Try.f8 false true false false) := by
  refine returnsInHanded_of_change_shaped (C := Try.checked) ownKnob_none started (by kernel_rfl) Try.func8
    (ChangeSpec.witness6 (enc := enc) (C := Try.checked) false ⟨#[], #[.slice none 0 0, .agg (arr2c ⟨0, 0, 0, List.replicate 8 ⟨0, 0, []⟩⟩ ⟨0, 0, 0, List.replicate 8 ⟨0, 0, []⟩⟩), .agg #[.int .u32 0, .int .u32 0]], []⟩ 8 (by kernel_rfl) (by kernel_rfl) (by kernel_rfl) (by kernel_rfl)) ?_
  intro W base args ds gs before hval hW _ _ hsh _
  exact contract H enc W base args ds gs before hval hW (MaxV.of hsh)
theorem proved : Rows.EvalAsksSaid :=
  OpenClaim.holds_of_wide 8 Try.f8 rfl rfl rfl rfl rfl rfl rfl ⟨rfl, rfl, rfl, rfl, rfl⟩ rfl rfl rfl rfl rfl (by kernel_rfl) Try.func8 (by kernel_rfl)
    (of_decide_eq_true (by kernel_rfl)) (by unfold Func.isWrapper; rw [if_neg (of_decide_eq_false (by kernel_rfl))]; exact ⟨rfl, rfl⟩)
    (fun os started H enc _ => lifted os started H enc)
end Go.Proofs.Ytldoedmclfbgpaa.clEvalAsks
