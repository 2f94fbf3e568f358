/-
  The statement EvalTells: whether a filter takes a card, and what it asks for, is the reference's: for every list, every card and all groups the law answers true. No condition beside the form's own.
-/
import Derived.Test.YtldoedmclfbgpaaEv1
import Derived.Test.YtldoedmclfbgpaaEv6
import Derived.HandedShaped
namespace Go.Proofs.Ytldoedmclfbgpaa.clEvalTells
open Go.ChangeShapes Go.WideShapes Go.ChangeAt Go.RowKit Go.Proofs.Ytldoedmclfbgpaa
open Go.ChangeMaps (open_string shut_string)

set_option maxRecDepth 100000 in
theorem contract (H : Type) (enc : TypeId × Value → H) (W : World) (base : Nat) (args : Array Value) (ds gs : List (DataW H)) (before : List MemPlace)
    (hval : ∀ (j : Nat) t v, Try.f7.params[j]? = some t → args[j]? = some v → Value.okWide Try.prog W .any base t v)
    (hW : DataW.Whole enc Try.prog Try.f7.params.toList Rows.evalTellsSpec.vars false W args.toList ds gs before)
    (hM : MaxV W) :
    Calls Try.prog 7 args W fun e W' => ∃ v, e = .returned v ∧ Rows.evalTellsSpec.post enc Try.prog Try.f7 false true false false W args v W' := by
  have hW' := hW
  obtain ⟨p, q, hA0, hV, rfl, hfz, hnd⟩ := hW
  have hA : DataW.TrodAll enc Try.prog W 0 (fun _ => true) true Try.f7.params.toList args.toList ds p := hA0
  clear hA0
  rw [Try.params7] at hA hval
  obtain ⟨v0, v1, v2, d0, d1, d2, p0, p1, p2, rfl, rfl, rfl, h0, h1, h2⟩ := trodAll_three hA
  obtain ⟨rfl, rfl⟩ := trodVars_none hV
  have hpost := fun W' (hb : Below W.heap.size W W') => law_post (f := Try.f7) (s := Rows.evalTellsSpec) laidOut Try.underlying4 (by kernel_rfl) rfl (by kernel_rfl) hW' rfl hb
  obtain ⟨a0, len, cap, rfl⟩ := okWide_slice Try.underlying33 (hval 0 33 v0 rfl rfl)
  obtain ⟨c1, rfl, _⟩ := okWide_struct u_card (hval 1 39 v1 rfl rfl)
  obtain ⟨g, rfl, rfl, rfl, wg⟩ := open_int Try.underlying34 (hval 2 34 v2 rfl rfl) h2
  obtain ⟨fuel0, hf0⟩ := h0
  obtain ⟨fuel1, hf1⟩ := h1
  obtain ⟨A, n, l, hcs, hl, hc, hr, hwf, _⟩ := open_nodes hf0
  simp only [Value.cells, List.cons.injEq, Value.slice.injEq, and_true] at hcs
  obtain ⟨rfl, rfl, rfl⟩ := hcs
  obtain ⟨c, hcc, hc8, hcl, -⟩ := open_card hf1
  obtain rfl : c1 = c.arr := Array.toList_inj.1 hcc
  by_cases h100 : 100 < l.length
  · exact (c_law13_EvalTells_long l.length a0 cap c _ W h100 hl hc hM).mono fun e W' ⟨he, hb⟩ => ⟨_, he, hpost W' hb⟩
  · obtain ⟨g0, g1⟩ := u32_range wg
    obtain ⟨k, rfl⟩ : ∃ k : Nat, g = k := ⟨g.toNat, by omega⟩
    exact (c_law13_EvalTells l a0 cap c k W hcl (by omega) hc8 ⟨hl, hc, by omega, hr⟩ (fun x hx => (hwf x hx).2.2.2.2) hM).mono fun e W' ⟨he, hb⟩ => ⟨_, he, hpost W' hb⟩
set_option maxRecDepth 100000 in
theorem lifted (os : Os) (started : os.Started) (H : Type) (enc : TypeId × Value → H) :
    ReturnsInHanded {} Try.checked os 7 .any (Rows.evalTellsSpec.pre6 enc Try.prog Try.f7 Rows.evalTellsRow.domain false) (Rows.evalTellsSpec.post enc Try.prog Try.f7 false true false false) := by
  refine returnsInHanded_of_change_shaped (C := Try.checked) ownKnob_none started (by kernel_rfl) Try.func7
    (ChangeSpec.witness6 (enc := enc) (C := Try.checked) false ⟨#[], #[.slice none 0 0, .agg (Card.arr ⟨0, 0, 0, List.replicate 8 ⟨0, 0, []⟩⟩), .int .u32 0], []⟩ 8 (by kernel_rfl) (by kernel_rfl) (by kernel_rfl) (by kernel_rfl)) ?_
  intro W base args ds gs before hval hW _ _ hsh _
  exact contract H enc W base args ds gs before hval hW (MaxV.of hsh)
theorem proved : Rows.EvalTellsSaid :=
  OpenClaim.holds_of_wide 7 Try.f7 rfl rfl rfl rfl rfl rfl rfl ⟨rfl, rfl, rfl, rfl, rfl⟩ rfl rfl rfl rfl rfl (by kernel_rfl) Try.func7 (by kernel_rfl)
    (of_decide_eq_true (by kernel_rfl)) (by unfold Func.isWrapper; rw [if_neg (of_decide_eq_false (by kernel_rfl))]; exact ⟨rfl, rfl⟩)
    (fun os started H enc _ => lifted os started H enc)
end Go.Proofs.Ytldoedmclfbgpaa.clEvalTells
