/-
  The statement CardwirePuts: values, cards and patches have the reference's bytes, behind any bytes: for every card, every patch and all bytes the law answers true. Conditions: the form's own, and that math/bits.deBruijn32tab holds what the program's text lays (the tied card).
-/
import Derived.Test.YtjkjfnhplgcigaaDoorCloseT
import Derived.Test.YtjkjfnhplgcigaaDoorCards
import Derived.Test.YtjkjfnhplgcigaaDoorTie
import Derived.Test.YtjkjfnhplgcigaaDoorOpenC
import Derived.Test.YtjkjfnhplgcigaaDoorOpenB
import Derived.Test.YtjkjfnhplgcigaaDoorW08f
namespace Go.Proofs.YtjkjfnhplgcigaaDoor.clCardwirePuts
open Go.ChangeShapes Go.WideShapes Go.ChangeAt Go.RowKit Go.Proofs.YtjkjfnhplgcigaaDoor
open Go.ChangeMaps (open_string shut_string)

set_option maxRecDepth 100000 in
theorem contract (H : Type) (enc : TypeId × Value → H) (W : World) (base : Nat) (args : Array Value) (ds gs : List (DataW H)) (before : List MemPlace)
    (hval : ∀ (j : Nat) t v, Tryd.f4.params[j]? = some t → args[j]? = some v → Value.okWide Tryd.prog W .any base t v)
    (hW : DataW.Whole enc Tryd.prog Tryd.f4.params.toList Rows.cardwirePutsSpec.vars false W args.toList ds gs before)
    (hT : Tab W) :
    Calls Tryd.prog 4 args W fun e W' => ∃ v, e = .returned v ∧ Rows.cardwirePutsSpec.post enc Tryd.prog Tryd.f4 false true false false W args v W' := by
  have hW' := hW
  obtain ⟨p, q, hA0, hV, rfl, hfz, hnd⟩ := hW
  have hA : DataW.TrodAll enc Tryd.prog W 0 (fun _ => true) true Tryd.f4.params.toList args.toList ds p := hA0
  clear hA0
  rw [Tryd.params4] at hA hval
  obtain ⟨v0, v1, v2, d0, d1, d2, p0, p1, p2, rfl, rfl, rfl, h0, h1, h2⟩ := trodAll_three hA
  obtain ⟨rfl, rfl⟩ := trodVars_none hV
  have hpost := fun W' (hb : Below W.heap.size W W') => law_post (f := Tryd.f4) (s := Rows.cardwirePutsSpec) laidOut Tryd.underlying4 (by kernel_rfl) rfl (by kernel_rfl) hW' rfl hb
  obtain ⟨c0, rfl, _⟩ := okWide_struct u_card (hval 0 40 v0 rfl rfl)
  obtain ⟨c1, rfl, _⟩ := okWide_struct u_patch (hval 1 27 v1 rfl rfl)
  obtain ⟨b0, len', cap', rfl⟩ := okWide_slice Tryd.underlying30 (hval 2 30 v2 rfl rfl)
  obtain ⟨fuel0, hf0⟩ := h0
  obtain ⟨fuel1, hf1⟩ := h1
  obtain ⟨fuel2, hf2⟩ := h2
  obtain ⟨c, hc, hc8, hcl, -⟩ := open_card hf0
  obtain ⟨p, hp, hp8, hpm, hpl, -⟩ := open_patch hf1
  obtain ⟨B, cb, b, hcs, hlb, hcb, hrb⟩ := open_bytes hf2
  obtain rfl : c0 = c.arr := Array.toList_inj.1 hc
  obtain rfl : c1 = p.arr := Array.toList_inj.1 hp
  simp only [Value.cells, List.cons.injEq, Value.slice.injEq, and_true] at hcs
  obtain ⟨rfl, rfl, rfl⟩ := hcs
  exact (c_law08_CardwirePuts c p b0 b.length cap' W hc8 hp8 hpm hT hlb hcb (fun h => ⟨b, rfl, hlb, hcb, by omega, hrb⟩)).mono fun e W' ⟨he, hb⟩ => ⟨_, he, hpost W' hb⟩
set_option maxRecDepth 100000 in
theorem lifted (os : Os) (started : os.Started) (H : Type) (enc : TypeId × Value → H) :
    ReturnsInHanded {} Tryd.checked os 4 .any (fun w args => (Rows.cardwirePutsSpec.pre enc Tryd.prog Tryd.f4 [] false w args ∧ laidMetH Tryd.prog laidT w) ∧ sizedMet enc Tryd.prog Tryd.f4 (OpenSpec.ofChange Rows.cardwirePutsSpec) false w args)
      (Rows.cardwirePutsSpec.post enc Tryd.prog Tryd.f4 false true false false) := by
  refine returnsInHanded_of_change_and (C := Tryd.checked) (X := fun w _ => laidMetH Tryd.prog laidT w) (fun _ _ _ hh h => h.of_heap hh) ownKnob_none started (by kernel_rfl) Tryd.func4
    (ChangeSpec.witness_shaped (enc := enc) (C := Tryd.checked) (os := os) (X := fun w _ => laidMetH Tryd.prog laidT w) false (World.doorLaid Tryd.prog 400 os) #[.agg (Card.arr ⟨0, 0, 0, List.replicate 8 ⟨0, 0, []⟩⟩), .agg (Patch.arr ⟨0, 0, List.replicate 8 ⟨0, 0, []⟩⟩), .slice none 0 0] 8 rfl (World.shaped_of_RefB (by kernel_rfl) (by kernel_rfl)) (by kernel_rfl) (by kernel_rfl) (by kernel_rfl) (door_met os _)) ?_
  intro W base args ds gs before hval hW _ _ hL _
  exact contract H enc W base args ds gs before hval hW (tab_of_laid hL)
theorem row : Rows.CardwirePutsSaid :=
  OpenClaim.holds_of_wide 4 Tryd.f4 rfl rfl rfl rfl rfl rfl rfl ⟨rfl, rfl, rfl, rfl, rfl⟩ rfl rfl rfl rfl rfl (by kernel_rfl) Tryd.func4 (by kernel_rfl)
    (of_decide_eq_true (by kernel_rfl)) (by unfold Func.isWrapper; rw [if_neg (of_decide_eq_false (by kernel_rfl))]; exact ⟨rfl, rfl⟩)
    (fun os started H enc _ => lifted os started H enc)
theorem proved : Rows.CardwirePutsCardSaid :=
  Claim7.holds_tied_plain_at .later [] [.data] true _ false row (fun _ h => by cases h) (by kernel_rfl) (fun _ h => by cases h) cardwirePuts_row_tie rfl ⟨rfl, rfl⟩ (by kernel_rfl) rfl
    (fun f fn hf hfn => by
      obtain rfl : f = 4 := Option.some.inj ((show Tryd.prog.funcNamed "offprint/offprintlaw08.CardwirePuts" = some 4 by kernel_rfl).symm.trans hf) |>.symm
      obtain rfl : fn = Tryd.f4 := (Option.some.inj (Tryd.func4.symm.trans hfn)).symm
      exact ⟨by kernel_rfl, fun j t ht => by
        have hall : (Tryd.f4.params.toList.all fun u => !Tryd.prog.wantsStandIn u) = true := by kernel_rfl
        have hm := List.all_eq_true.1 hall t (by have := Array.mem_of_getElem? ht; simpa using this)
        show Tryd.prog.wantsStandIn t = false
        simpa using hm⟩)
    (by kernel_rfl)
end Go.Proofs.YtjkjfnhplgcigaaDoor.clCardwirePuts
