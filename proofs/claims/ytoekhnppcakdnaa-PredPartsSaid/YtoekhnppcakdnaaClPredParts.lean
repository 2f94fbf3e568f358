/-
  The statement PredParts: a filter's parts, and which of two lists stands ahead, are the reference's: for all lists and every place the law answers true. No condition beside the form's own.
-/
import Derived.Test.YtoekhnppcakdnaaOpen
import Derived.Test.YtoekhnppcakdnaaW10n
namespace Go.Proofs.Ytoekhnppcakdnaa.clPredParts
open Go.ChangeShapes Go.WideShapes Go.ChangeAt Go.RowKit Go.Proofs.Ytoekhnppcakdnaa
open Go.ChangeMaps (open_string shut_string)

theorem large_any (l : List Node) (A : Option Addr) (c : Nat) (w : World) (hl : l.length ≤ c) (hc : c ≤ 9223372036854775807) (hr : l = [] ∨ ∃ b off, A = some ⟨b, off, none⟩ ∧ b < w.heap.size ∧ Row 5 Node.cells w b off l) (hs : ∀ x ∈ l, x.v.s.length ≤ 9223372036854775807) :
    ∃ ba : Bool, (∀ w', Below w.heap.size w w' → Calls Try.prog 15 #[.slice A l.length c] w' (RetV w' (.bool ba))) ∧ (ba = false → InN w A c l ∧ large l = false) := by
  by_cases h : 100 < l.length
  · exact ⟨true, fun w' _ => c_law10_Large_long l.length A c w' h hl hc, fun e => by cases e⟩
  · have hin : InN w A c l := ⟨hl, hc, by omega, hr⟩
    exact ⟨large l, fun w' hb => c_law10_Large l A c w' (hin.below hb) hs, fun e => ⟨hin, e⟩⟩
set_option maxRecDepth 100000 in
theorem contract (H : Type) (enc : TypeId × Value → H) (W : World) (base : Nat) (args : Array Value) (ds gs : List (DataW H)) (before : List MemPlace)
    (hval : ∀ (j : Nat) t v, Try.f8.params[j]? = some t → args[j]? = some v → Value.okWide Try.prog W .any base t v)
    (hW : DataW.Whole enc Try.prog Try.f8.params.toList Rows.predPartsSpec.vars false W args.toList ds gs before) :
    Calls Try.prog 8 args W fun e W' => ∃ v, e = .returned v ∧ Rows.predPartsSpec.post enc Try.prog Try.f8 false true false false W args v W' := by
  have hW' := hW
  obtain ⟨p, q, hA0, hV, rfl, hfz, hnd⟩ := hW
  have hA : DataW.TrodAll enc Try.prog W 0 (fun _ => true) true Try.f8.params.toList args.toList ds p := hA0
  clear hA0
  rw [Try.params8] at hA hval
  obtain ⟨v0, v1, v2, d0, d1, d2, p0, p1, p2, rfl, rfl, rfl, h0, h1, h2⟩ := trodAll_three hA
  obtain ⟨rfl, rfl⟩ := trodVars_none hV
  have hpost := fun W' (hb : Below W.heap.size W W') => law_post (f := Try.f8) (s := Rows.predPartsSpec) laidOut Try.underlying4 (by kernel_rfl) rfl (by kernel_rfl) hW' rfl hb
  obtain ⟨i, rfl, rfl, rfl, wi⟩ := open_int Try.underlying3 (hval 1 3 v1 rfl rfl) h1
  obtain ⟨a0, len, cap, rfl⟩ := okWide_slice Try.underlying22 (hval 0 22 v0 rfl rfl)
  obtain ⟨b0, len', cap', rfl⟩ := okWide_slice Try.underlying22 (hval 2 22 v2 rfl rfl)
  obtain ⟨fuel, hf⟩ := h0
  obtain ⟨A, c, l, hcs, hl, hc, hr, hwf, _⟩ := open_nodes hf
  simp only [Value.cells, List.cons.injEq, Value.slice.injEq, and_true] at hcs
  obtain ⟨rfl, rfl, rfl⟩ := hcs
  obtain ⟨fuel', hf'⟩ := h2
  obtain ⟨B, cb, b, hcs, hlb, hcb, hrb, hwfb, _⟩ := open_nodes hf'
  simp only [Value.cells, List.cons.injEq, Value.slice.injEq, and_true] at hcs
  obtain ⟨rfl, rfl, rfl⟩ := hcs
  have hsa : ∀ x ∈ l, x.v.s.length ≤ 9223372036854775807 := fun x hx => (hwf x hx).2.2.2.2
  have hsb : ∀ x ∈ b, x.v.s.length ≤ 9223372036854775807 := fun x hx => (hwfb x hx).2.2.2.2
  obtain ⟨ea, ka, ka0⟩ := large_any l a0 cap W hl hc hr hsa
  obtain ⟨eb, kb, kb0⟩ := large_any b b0 cap' W hlb hcb hrb hsb
  by_cases h : ea = true ∨ eb = true
  · exact (c_law10_PredParts_large _ _ i ea eb W ka kb h).mono fun e W' ⟨he, hb⟩ => ⟨_, he, hpost W' hb⟩
  · have e1 : ea = false := by cases ea <;> simp_all
    have e2 : eb = false := by cases eb <;> simp_all
    obtain ⟨ia, la⟩ := ka0 e1
    obtain ⟨ib, lb⟩ := kb0 e2
    exact (c_law10_PredParts l b a0 b0 cap cap' i W ia ib la lb).mono fun e W' ⟨he, hb⟩ => ⟨_, he, hpost W' hb⟩
set_option maxRecDepth 100000 in
theorem lifted (os : Os) (started : os.Started) (H : Type) (enc : TypeId × Value → H) :
    ReturnsInHanded {} Try.checked os 8 .any (Rows.predPartsSpec.pre6 enc Try.prog Try.f8 Rows.predPartsRow.domain false) (Rows.predPartsSpec.post enc Try.prog Try.f8 false true false false) := by
  refine returnsInHanded_of_change (C := Try.checked) ownKnob_none started (by kernel_rfl) Try.func8
    (ChangeSpec.witness6 (enc := enc) (C := Try.checked) false ⟨#[], #[.slice none 0 0, .int .i64 0, .slice none 0 0], []⟩ 8 (by kernel_rfl) (by kernel_rfl) (by kernel_rfl) (by kernel_rfl)) ?_
  intro W base args ds gs before hval hW _ _
  exact contract H enc W base args ds gs before hval hW
theorem proved : Rows.PredPartsSaid :=
  OpenClaim.holds_of_wide 8 Try.f8 rfl rfl rfl rfl rfl rfl rfl ⟨rfl, rfl, rfl, rfl, rfl⟩ rfl rfl rfl rfl rfl (by kernel_rfl) Try.func8 (by kernel_rfl)
    (of_decide_eq_true (by kernel_rfl)) (by unfold Func.isWrapper; rw [if_neg (of_decide_eq_false (by kernel_rfl))]; exact ⟨rfl, rfl⟩)
    (fun os started H enc _ => lifted os started H enc)
end Go.Proofs.Ytoekhnppcakdnaa.clPredParts
