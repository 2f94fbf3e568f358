/-
  The statement CmdwirePuts: commands have the reference's bytes, behind any bytes, and which are alike is the reference's: for every two commands and all bytes the law answers true. Conditions: the form's own, and that math/bits.deBruijn32tab holds what the program's text lays (the tied card).
-/
import Derived.Test.YtjhndilflcigiaaDoorQa28
import Derived.Test.YtjhndilflcigiaaDoorRows
import Derived.WalkKit
import Derived.WalkSpells
import Derived.WalkLawsBesides
import Derived.Lib.Hide
import Derived.Deep.QuietTactic
import Derived.BigQuiet
import Derived.Maps.AppendAt
import Derived.WalkSmall
import Derived.ProofKit
import Derived.OpenShut
import Derived.JoinedCond
import Derived.Deep.Slices
import Derived.Deep.Fields
import Derived.Carry
import Derived.Deep.AppendSrc
import Derived.Lib.AppendStr
import Derived.Laws.BytesArg
import Derived.Test.YtjhndilflcigiaaDoorProg
import Derived.Shelf.Spec.TrailingZeros
import Derived.RangeFuncNested
import Derived.RangeFuncBound
import Derived.RangeFuncCalls
import Derived.RangeFuncLeaves
import Derived.Shelf.Abstract
import Derived.Shelf.RegionOpen
import Derived.OwnWalkIn
import Derived.TacticsInMore
import Derived.LoopNIn
import Derived.LoopIn
import Derived.Test.YtjhndilflcigiaaDoorTie
import Derived.Lib.LaidTab
import Derived.LaidMore
import Derived.SevenTiedAt
import Derived.Test.YtjhndilflcigiaaDoorCards
import Derived.Laws.Tables
import Derived.Laws.Rows
import Derived.ChangeKeysEq
import Derived.Laws.StructEq
import Derived.Deep.CutBlock
import Derived.Deep.DeepCutAuto
import Derived.Laws.CopyOwn
import Derived.Outline
import Derived.IntWalk
import Derived.Lib.EndianBits
import Derived.StillTail
import Derived.Lib.AppendZeros
import Derived.Deep.Quiet
namespace Go.Proofs.YtjhndilflcigiaaDoor.clCmdwirePuts
open Go.ChangeShapes Go.WideShapes Go.ChangeAt Go.RowKit Go.Proofs.YtjhndilflcigiaaDoor
open Go.ChangeMaps (open_string shut_string)

theorem u_cmd : Tryd.prog.underlying 32 = some (.struct (Tryd.prog.fieldsOf 32)) := by kernel_rfl
def bigC (c : Cmd) : Bool := longF c.e.p.f || (longF c.p.f || large c.f)
theorem big_of {c : Cmd} {A : Option Addr} {n : Nat} {W : World} (hwf : c.wf) (h1 : c.f.length ≤ n) (h2 : n ≤ 9223372036854775807) (h3 : c.f = [] ∨ ∃ b off, A = some ⟨b, off, none⟩ ∧ b < W.heap.size ∧ Row 5 Node.cells W b off c.f) (h4 : ∀ v ∈ c.f, v.wf) :
    ∀ w', Below W.heap.size W w' → Calls Tryd.prog 9 #[.agg (c.arr A n)] w' (RetV w' (.bool (bigC c))) := by
  intro w' hb
  refine c_law32_Large c A n (large c.f) w' hwf ?_
  intro w2 hb2
  have hb3 := hb.trans (hb2.mono hb.size)
  by_cases h100 : 100 < c.f.length
  · have : large c.f = true := by unfold large; simp [h100]
    rw [this]
    exact c_law10_Large_long c.f.length A n w2 h100 h1 h2
  · have hin : InN W A n c.f := ⟨h1, h2, by omega, h3⟩
    exact c_law10_Large c.f A n w2 (hin.below hb3) (fun x hx => (h4 x hx).2.2.2.2)
theorem big_no {c : Cmd} (h : bigC c = false) : c.f.length ≤ 100 ∧ (∀ x ∈ c.f, x.v.s.length ≤ 4294967000) ∧ (∀ x ∈ c.e.p.f, x.s.length ≤ 4294967000) ∧ (∀ x ∈ c.p.f, x.s.length ≤ 4294967000) := by
  unfold bigC at h
  simp only [Bool.or_eq_false_iff] at h
  obtain ⟨h1, h2, h3⟩ := h
  have h4 := large_short h3
  refine ⟨h4.1, fun x hx => by have := h4.2 x hx; omega, fun x hx => ?_, fun x hx => ?_⟩
  · have := List.any_eq_false.1 h1 x hx; simp at this; omega
  · have := List.any_eq_false.1 h2 x hx; simp at this; omega
set_option maxRecDepth 100000 in
theorem contract (H : Type) (enc : TypeId × Value → H) (W : World) (base : Nat) (args : Array Value) (ds gs : List (DataW H)) (before : List MemPlace)
    (hval : ∀ (j : Nat) t v, Tryd.f3.params[j]? = some t → args[j]? = some v → Value.okWide Tryd.prog W .any base t v)
    (hW : DataW.Whole enc Tryd.prog Tryd.f3.params.toList Rows.cmdwirePutsSpec.vars false W args.toList ds gs before)
    (hT : Tab W) :
    Calls Tryd.prog 3 args W fun e W' => ∃ v, e = .returned v ∧ Rows.cmdwirePutsSpec.post enc Tryd.prog Tryd.f3 false true false false W args v W' := by
  have hW' := hW
  obtain ⟨p, q, hA0, hV, rfl, hfz, hnd⟩ := hW
  have hA : DataW.TrodAll enc Tryd.prog W 0 (fun _ => true) true Tryd.f3.params.toList args.toList ds p := hA0
  clear hA0
  rw [Tryd.params3] at hA hval
  obtain ⟨v0, v1, v2, d0, d1, d2, p0, p1, p2, rfl, rfl, rfl, h0, h1, h2⟩ := trodAll_three hA
  obtain ⟨rfl, rfl⟩ := trodVars_none hV
  have hpost := fun W' (hb : Below W.heap.size W W') => law_post (f := Tryd.f3) (s := Rows.cmdwirePutsSpec) laidOut Tryd.underlying4 (by kernel_rfl) rfl (by kernel_rfl) hW' rfl hb
  obtain ⟨c0, rfl, _⟩ := okWide_struct u_cmd (hval 0 32 v0 rfl rfl)
  obtain ⟨c1, rfl, _⟩ := okWide_struct u_cmd (hval 1 32 v1 rfl rfl)
  obtain ⟨b0, len', cap', rfl⟩ := okWide_slice Tryd.underlying33 (hval 2 33 v2 rfl rfl)
  obtain ⟨fuel0, hf0⟩ := h0
  obtain ⟨fuel1, hf1⟩ := h1
  obtain ⟨fuel2, hf2⟩ := h2
  obtain ⟨c, A, n, hca, cwf, crg, ka1, ka2, ka3, kaw, kme, kmp, km, -⟩ := open_cmd hf0
  obtain ⟨o, O, m, hco, owf, -, ko1, ko2, ko3, kow, -⟩ := open_cmd hf1
  obtain ⟨B, cb, b, hcs, hlb, hcb, hrb⟩ := open_bytes hf2
  obtain rfl : c0 = c.arr A n := Array.toList_inj.1 hca
  obtain rfl : c1 = o.arr O m := Array.toList_inj.1 hco
  simp only [Value.cells, List.cons.injEq, Value.slice.injEq, and_true] at hcs
  obtain ⟨rfl, rfl, rfl⟩ := hcs
  have k1 := big_of cwf ka1 ka2 ka3 kaw
  have k2 := big_of owf ko1 ko2 ko3 kow
  by_cases hlong : bigC c = true ∨ bigC o = true ∨ 500 < b.length
  · exact (law33_Puts_long c o A O b0 n m b.length cap' _ _ W hT cwf owf k1 k2 hlong).mono fun e W' ⟨he, hb⟩ => ⟨_, he, hpost W' hb⟩
  · have la : bigC c = false := by cases h : bigC c <;> simp_all
    have lo : bigC o = false := by cases h : bigC o <;> simp_all
    rw [la] at k1
    rw [lo] at k2
    obtain ⟨a1, a2, a3, a4⟩ := big_no la
    have o1 := (big_no lo).1
    exact (c_law33_CmdwirePuts c o b A O b0 n m cap' W hT cwf owf k1 k2 crg ⟨ka1, ka2, by omega, ka3⟩ ⟨ko1, ko2, by omega, ko3⟩ a2 a3 a4 kme kmp km ⟨hlb, hcb, by omega, hrb⟩ (by omega)).mono fun e W' ⟨he, hb⟩ => ⟨_, he, hpost W' hb⟩
set_option maxRecDepth 100000 in
theorem lifted (os : Os) (started : os.Started) (H : Type) (enc : TypeId × Value → H) :
    ReturnsInHanded {} Tryd.checked os 3 .any (fun w args => (Rows.cmdwirePutsSpec.pre enc Tryd.prog Tryd.f3 [] false w args ∧ laidMetH Tryd.prog laidT w) ∧ sizedMet enc Tryd.prog Tryd.f3 (OpenSpec.ofChange Rows.cmdwirePutsSpec) false w args)
      (Rows.cmdwirePutsSpec.post enc Tryd.prog Tryd.f3 false true false false) := by
  refine returnsInHanded_of_change_and (C := Tryd.checked) (X := fun w _ => laidMetH Tryd.prog laidT w) (fun _ _ _ hh h => h.of_heap hh) ownKnob_none started (by kernel_rfl) Tryd.func3
    (ChangeSpec.witness_shaped (enc := enc) (C := Tryd.checked) (os := os) (X := fun w _ => laidMetH Tryd.prog laidT w) false (World.doorLaid Tryd.prog 400 os) #[.agg (Cmd.arr cmdz none 0), .agg (Cmd.arr cmdz none 0), .slice none 0 0] 8 rfl (World.shaped_of_RefB (by kernel_rfl) (by kernel_rfl)) (by kernel_rfl) (by kernel_rfl) (by kernel_rfl) (door_met os _)) ?_
  intro W base args ds gs before hval hW _ _ hL _
  exact contract H enc W base args ds gs before hval hW (tab_of_laid hL)
theorem row : Rows.CmdwirePutsSaid :=
  OpenClaim.holds_of_wide 3 Tryd.f3 rfl rfl rfl rfl rfl rfl rfl ⟨rfl, rfl, rfl, rfl, rfl⟩ rfl rfl rfl rfl rfl (by kernel_rfl) Tryd.func3 (by kernel_rfl)
    (of_decide_eq_true (by kernel_rfl)) (by unfold Func.isWrapper; rw [if_neg (of_decide_eq_false (by kernel_rfl))]; exact ⟨rfl, rfl⟩)
    (fun os started H enc _ => lifted os started H enc)
theorem proved : Rows.CmdwirePutsCardSaid :=
  Claim7.holds_tied_plain_at .later [] [.data] true _ false row (fun _ h => by cases h) (by kernel_rfl) (fun _ h => by cases h) cmdwirePuts_row_tie rfl ⟨rfl, rfl⟩ (by kernel_rfl) rfl
    (fun f fn hf hfn => by
      obtain rfl : f = 3 := Option.some.inj ((show Tryd.prog.funcNamed "offprint/offprintlaw33.CmdwirePuts" = some 3 by kernel_rfl).symm.trans hf) |>.symm
      obtain rfl : fn = Tryd.f3 := (Option.some.inj (Tryd.func3.symm.trans hfn)).symm
      exact ⟨by kernel_rfl, fun j t ht => by
        have hall : (Tryd.f3.params.toList.all fun u => !Tryd.prog.wantsStandIn u) = true := by kernel_rfl
        have hm := List.all_eq_true.1 hall t (by have := Array.mem_of_getElem? ht; simpa using this)
        show Tryd.prog.wantsStandIn t = false
        simpa using hm⟩)
    (by kernel_rfl)
end Go.Proofs.YtjhndilflcigiaaDoor.clCmdwirePuts
