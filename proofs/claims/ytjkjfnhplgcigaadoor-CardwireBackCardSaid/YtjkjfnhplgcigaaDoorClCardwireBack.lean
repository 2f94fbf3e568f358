/-
  The statement CardwireBack: what was put is read, with whatever stands behind it: for every card, every patch and all bytes the law answers true. Conditions: the form's own, and that math/bits.deBruijn32tab holds what the program's text lays (the tied card).
-/
import Derived.Test.YtjkjfnhplgcigaaDoorCloseT
import Derived.Test.YtjkjfnhplgcigaaDoorCards
import Derived.Test.YtjkjfnhplgcigaaDoorTie
import Derived.Test.YtjkjfnhplgcigaaDoorOpenC
import Derived.Test.YtjkjfnhplgcigaaDoorOpenB
import Derived.Test.YtjkjfnhplgcigaaDoorW08o
namespace Go.Proofs.YtjkjfnhplgcigaaDoor.clCardwireBack
open Go.ChangeShapes Go.WideShapes Go.ChangeAt Go.RowKit Go.Proofs.YtjkjfnhplgcigaaDoor
open Go.ChangeMaps (open_string shut_string)

set_option maxRecDepth 100000 in
theorem contract (H : Type) (enc : TypeId × Value → H) (W : World) (base : Nat) (args : Array Value) (ds gs : List (DataW H)) (before : List MemPlace)
    (hval : ∀ (j : Nat) t v, Tryd.f8.params[j]? = some t → args[j]? = some v → Value.okWide Tryd.prog W .any base t v)
    (hW : DataW.Whole enc Tryd.prog Tryd.f8.params.toList Rows.cardwireBackSpec.vars false W args.toList ds gs before)
    (hT : Tab W) :
    Calls Tryd.prog 8 args W fun e W' => ∃ v, e = .returned v ∧ Rows.cardwireBackSpec.post enc Tryd.prog Tryd.f8 false true false false W args v W' := by
  have hW' := hW
  obtain ⟨p, q, hA0, hV, rfl, hfz, hnd⟩ := hW
  have hA : DataW.TrodAll enc Tryd.prog W 0 (fun _ => true) true Tryd.f8.params.toList args.toList ds p := hA0
  clear hA0
  rw [Tryd.params8] at hA hval
  obtain ⟨v0, v1, v2, d0, d1, d2, p0, p1, p2, rfl, rfl, rfl, h0, h1, h2⟩ := trodAll_three hA
  obtain ⟨rfl, rfl⟩ := trodVars_none hV
  have hpost := fun W' (hb : Below W.heap.size W W') => law_post (f := Tryd.f8) (s := Rows.cardwireBackSpec) laidOut Tryd.underlying4 (by kernel_rfl) rfl (by kernel_rfl) hW' rfl hb
  obtain ⟨c0, rfl, _⟩ := okWide_struct u_card (hval 0 40 v0 rfl rfl)
  obtain ⟨c1, rfl, _⟩ := okWide_struct u_patch (hval 1 27 v1 rfl rfl)
  obtain ⟨b0, len', cap', rfl⟩ := okWide_slice Tryd.underlying30 (hval 2 30 v2 rfl rfl)
  obtain ⟨fuel0, hf0⟩ := h0
  obtain ⟨fuel1, hf1⟩ := h1
  obtain ⟨fuel2, hf2⟩ := h2
  obtain ⟨c, hc, hc8, hcl, -, -, hwc⟩ := open_card hf0
  obtain ⟨p, hp, hp8, hpm, hpl, hwp⟩ := open_patch hf1
  obtain ⟨B, cb, b, hcs, hlb, hcb, hrb⟩ := open_bytes hf2
  obtain rfl : c0 = c.arr := Array.toList_inj.1 hc
  obtain rfl : c1 = p.arr := Array.toList_inj.1 hp
  simp only [Value.cells, List.cons.injEq, Value.slice.injEq, and_true] at hcs
  obtain ⟨rfl, rfl, rfl⟩ := hcs
  by_cases h : c.ok = true ∧ p.code = 0 ∧ b.length ≤ 500
  · exact (c_law08_CardwireBack c p b b0 cap' W hc8 hp8 hpm h.1 h.2.1 ⟨hlb, hcb, by omega, hrb⟩ h.2.2 hT).mono fun e W' ⟨he, hb⟩ => ⟨_, he, hpost W' hb⟩
  · have h' : c.ok = false ∨ p.code ≠ 0 ∨ 500 < b.length := by
      by_cases h1 : c.ok = true
      · by_cases h2 : p.code = 0
        · exact .inr (.inr (Nat.lt_of_not_le fun h3 => h ⟨h1, h2, h3⟩))
        · exact .inr (.inl h2)
      · exact .inl (by simpa using h1)
    exact (law08_Back_skip c p b0 b.length cap' W hc8 hp8 (fun x hx => (hwc x hx).2.2) (fun x hx => (hwp x hx).2.2) hpm h').mono fun e W' ⟨he, hb⟩ => ⟨_, he, hpost W' hb⟩
set_option maxRecDepth 100000 in
theorem lifted (os : Os) (started : os.Started) (H : Type) (enc : TypeId × Value → H) :
    ReturnsInHanded {} Tryd.checked os 8 .any (fun w args => (Rows.cardwireBackSpec.pre enc Tryd.prog Tryd.f8 [] false w args ∧ laidMetH Tryd.prog laidT w) ∧ sizedMet enc Tryd.prog Tryd.f8 (OpenSpec.ofChange Rows.cardwireBackSpec) false w args)
      (Rows.cardwireBackSpec.post enc Tryd.prog Tryd.f8 false true false false) := by
  refine returnsInHanded_of_change_and (C := Tryd.checked) (X := fun w _ => laidMetH Tryd.prog laidT w) (fun _ _ _ hh h => h.of_heap hh) ownKnob_none started (by kernel_rfl) Tryd.func8
    (ChangeSpec.witness_shaped (enc := enc) (C := Tryd.checked) (os := os) (X := fun w _ => laidMetH Tryd.prog laidT w) false (World.doorLaid Tryd.prog 400 os) #[.agg (Card.arr ⟨0, 0, 0, List.replicate 8 ⟨0, 0, []⟩⟩), .agg (Patch.arr ⟨0, 0, List.replicate 8 ⟨0, 0, []⟩⟩), .slice none 0 0] 8 rfl (World.shaped_of_RefB (by kernel_rfl) (by kernel_rfl)) (by kernel_rfl) (by kernel_rfl) (by kernel_rfl) (door_met os _)) ?_
  intro W base args ds gs before hval hW _ _ hL _
  exact contract H enc W base args ds gs before hval hW (tab_of_laid hL)
theorem row : Rows.CardwireBackSaid :=
  OpenClaim.holds_of_wide 8 Tryd.f8 rfl rfl rfl rfl rfl rfl rfl ⟨rfl, rfl, rfl, rfl, rfl⟩ rfl rfl rfl rfl rfl (by kernel_rfl) Tryd.func8 (by kernel_rfl)
    (of_decide_eq_true (by kernel_rfl)) (by unfold Func.isWrapper; rw [if_neg (of_decide_eq_false (by kernel_rfl))]; exact ⟨rfl, rfl⟩)
    (fun os started H enc _ => lifted os started H enc)
theorem proved : Rows.CardwireBackCardSaid :=
  Claim7.holds_tied_plain_at .later [] [.data] true _ false row (fun _ h => by cases h) (by kernel_rfl) (fun _ h => by cases h) cardwireBack_row_tie rfl ⟨rfl, rfl⟩ (by kernel_rfl) rfl
    (fun f fn hf hfn => by
      obtain rfl : f = 8 := Option.some.inj ((show Tryd.prog.funcNamed "offprint/offprintlaw08.CardwireBack" = some 8 by kernel_rfl).symm.trans hf) |>.symm
      obtain rfl : fn = Tryd.f8 := (Option.some.inj (Tryd.func8.symm.trans hfn)).symm
      exact ⟨by kernel_rfl, fun j t ht => by
        have hall : (Tryd.f8.params.toList.all fun u => !Tryd.prog.wantsStandIn u) = true := by kernel_rfl
        have hm := List.all_eq_true.1 hall t (by have := Array.mem_of_getElem? ht; simpa using this)
        show Tryd.prog.wantsStandIn t = false
        simpa using hm⟩)
    (by kernel_rfl)
end Go.Proofs.YtjkjfnhplgcigaaDoor.clCardwireBack
