/-
  The statement ValueChain: less is an order: any three values: for all inputs the law answers true. Conditions: the form's own, and that the three listed tables of the library hold what the program's text lays (the tied card).
-/
import Derived.Test.YtkofjkadmknmjaaDoorVd8
import Derived.Test.YtkofjkadmknmjaaDoorRows
import Derived.WalkKit
import Derived.WalkSpells
import Derived.WalkLawsBesides
import Derived.Lib.Hide
import Derived.Deep.QuietTactic
import Derived.BigQuiet
import Derived.Maps.AppendAt
import Derived.WalkSmall
import Derived.ProofKit
import Derived.OpenShut
import Derived.JoinedCond
import Derived.Deep.Slices
import Derived.Deep.Fields
import Derived.Carry
import Derived.Shelf.Small.Wraps
import Derived.Shelf.Utf8.RuneCount
import Derived.Shelf.Strconv.Itoa0
import Derived.Shelf.Strconv.Itoa1
import Derived.Shelf.LaysM
import Derived.Shelf.Strconv.Itoa2
import Derived.Shelf.Strconv.Itoa3
import Derived.Shelf.Strings.Search1
import Derived.Shelf.Strings.Search2
import Derived.Shelf.Strings.Search3
import Derived.Shelf.Strings.Count
import Derived.Shelf.Strings.Shaped
import Derived.Shelf.Strings.Prefix
import Derived.Shelf.Strings.Split
import Derived.Shelf.Strings.SplitShaped
import Derived.Shelf.Unicode.DecodeSlow
import Derived.Test.YtkofjkadmknmjaaDoorProg
import Derived.Deep.AppendSrc
import Derived.Lib.AppendStr
import Derived.Laws.BytesArg
import Derived.Lib.AppendIntMem
import Derived.Lib.ItoaLen
import Derived.Test.YtkofjkadmknmjaaDoorTie
import Derived.Lib.LaidTab
import Derived.LaidMore
import Derived.Stop.LaidErr
import Derived.SevenTiedAt
import Derived.HandedShaped
import Derived.Test.YtkofjkadmknmjaaDoorCards
import Derived.Deep.CutBlock
import Derived.Deep.DeepCutAuto
import Derived.Laws.IdiomStrings
import Derived.Outline
import Derived.IntWalk
import Derived.StillTail
import Derived.Laws.Tables
import Derived.Laws.Rows
import Derived.ChangeKeysEq
import Derived.Laws.StructEq
import Derived.Lib.AppendZeros
import Derived.Deep.Quiet
import Derived.OwnWalk
import Derived.Lib.TrailingZeros
import Derived.Lib.SplitLaws
import Derived.Lib.ItoaNum
import Derived.Shelf.Strings.PiecesUse
namespace Go.Proofs.YtkofjkadmknmjaaDoor.clValueChain
open Go.ChangeShapes Go.WideShapes Go.ChangeAt Go.RowKit Go.Proofs.YtkofjkadmknmjaaDoor
open Go.ChangeMaps (open_string shut_string)

theorem c_v3 : Tryd.prog.cellsOf 29 = 9 := by kernel_rfl
set_option maxRecDepth 100000 in
theorem open_v3 {H : Type} {enc : TypeId × Value → H} {w : World} {base : Nat} {spare : Nat → Bool} {held : Bool} {fuel : Nat} {cs : List Value} {x : DataW H × List MemPlace} (h : DataW.trod enc Tryd.prog w base spare held fuel 29 cs = some x) :
    ∃ a b c : Val, cs = (arr3 a b c).toList ∧ x.1 = .agg [.agg [.lit (.int .i64 a.kind), .lit (.int .i64 a.n), .lit (.string a.s)], .agg [.lit (.int .i64 b.kind), .lit (.int .i64 b.n), .lit (.string b.s)], .agg [.lit (.int .i64 c.kind), .lit (.int .i64 c.n), .lit (.string c.s)]] := by
  obtain ⟨xs, m, _, hx, hl, hxl, hf⟩ := DataW.trod_array Tryd.underlying29 h
  rw [c_v3] at hl
  obtain ⟨x0, x1, x2, rfl⟩ := list3 (show xs.length = 3 from hxl)
  rw [c_value] at hf
  have h0 := hf 0 (by omega)
  have h1 := hf 1 (by omega)
  have h2 := hf 2 (by omega)
  obtain ⟨a, ha, ea, -⟩ := open_val h0
  obtain ⟨b, hb, eb, -⟩ := open_val h1
  obtain ⟨c, hc, ec, -⟩ := open_val h2
  refine ⟨a, b, c, ?_, by rw [hx, ea, eb, ec]; rfl⟩
  have hs : cs = (cs.drop (0 * 3)).take 3 ++ ((cs.drop (1 * 3)).take 3 ++ (cs.drop (2 * 3)).take 3) := by
    match cs, hl with
    | [_, _, _, _, _, _, _, _, _], _ => rfl
  rw [hs, ha, hb, hc]
  rfl
theorem okWide_arr {P : Program} {w : World} {r : Reach} {base : Nat} {t e : TypeId} {n : Nat} {v : Value} (ht : P.underlying t = some (.array n e)) (h : Value.okWide P w r base t v) : ∃ cs, v = .agg cs ∧ cs.size = P.cellsOf t := by
  simp only [Value.okWide, ht] at h
  obtain ⟨cs, h1, h2, _⟩ := h
  exact ⟨cs, h1, h2⟩
theorem v3_bound {H : Type} {ts : List TypeId} {gs : List (DataW H)} {d : DataW H} {a b c : Val} (h : (DataW.weightsEach Tryd.prog (29 :: ts) (d :: gs)).all (· ≤ reachBytes) = true)
    (hd : d = .agg [.agg [.lit (.int .i64 a.kind), .lit (.int .i64 a.n), .lit (.string a.s)], .agg [.lit (.int .i64 b.kind), .lit (.int .i64 b.n), .lit (.string b.s)], .agg [.lit (.int .i64 c.kind), .lit (.int .i64 c.n), .lit (.string c.s)]]) :
    a.s.length ≤ 140737488355328 ∧ b.s.length ≤ 140737488355328 ∧ c.s.length ≤ 140737488355328 := by
  have hm : ∀ n ∈ d.weights Tryd.prog 29, n ≤ 140737488355328 := fun n hn => by
    have := List.all_eq_true.1 h n (DataW.weights_mem_each (j := 0) rfl rfl n hn)
    unfold reachBytes at this
    simp at this
    omega
  subst hd
  have ew : DataW.weights Tryd.prog 29 (H := H) (.agg [.agg [.lit (.int .i64 a.kind), .lit (.int .i64 a.n), .lit (.string a.s)], .agg [.lit (.int .i64 b.kind), .lit (.int .i64 b.n), .lit (.string b.s)], .agg [.lit (.int .i64 c.kind), .lit (.int .i64 c.n), .lit (.string c.s)]]) = [a.s.length, b.s.length, c.s.length] := by
    simp [DataW.weights, DataW.weightsAll, DataW.weightsEach, Tryd.underlying29, Tryd.underlying23]
  rw [ew] at hm
  exact ⟨hm _ (by simp), hm _ (by simp), hm _ (by simp)⟩
set_option maxRecDepth 100000 in
theorem contract (H : Type) (enc : TypeId × Value → H) (W : World) (base : Nat) (args : Array Value) (ds gs : List (DataW H)) (before : List MemPlace)
    (hval : ∀ (j : Nat) t v, Tryd.f4.params[j]? = some t → args[j]? = some v → Value.okWide Tryd.prog W .any base t v)
    (hW : DataW.Whole enc Tryd.prog Tryd.f4.params.toList Rows.valueChainSpec.vars false W args.toList ds gs before)
    (hz : (DataW.weightsEach Tryd.prog (Tryd.f4.params.toList ++ Rows.valueChainSpec.plain.varTypes Tryd.prog) (ds ++ gs)).all (· ≤ reachBytes) = true) (hP : PowTab W) (hM : MaxV W) :
    Calls Tryd.prog 4 args W fun e W' => ∃ v, e = .returned v ∧ Rows.valueChainSpec.post enc Tryd.prog Tryd.f4 false true false false W args v W' := by
  have hW' := hW
  obtain ⟨p, q, hA0, hV, rfl, hfz, hnd⟩ := hW
  have hA : DataW.TrodAll enc Tryd.prog W 0 (fun _ => true) true Tryd.f4.params.toList args.toList ds p := hA0
  clear hA0
  rw [Tryd.params4] at hA hval
  obtain ⟨v0, d0, rfl, rfl, h0⟩ := trodAll_one hA
  obtain ⟨rfl, rfl⟩ := trodVars_none hV
  have hpost := fun W' (hb : Below W.heap.size W W') => law_post (f := Tryd.f4) (s := Rows.valueChainSpec) laidOut Tryd.underlying4 (by kernel_rfl) rfl (by kernel_rfl) hW' rfl hb
  obtain ⟨c0, rfl, _⟩ := okWide_arr Tryd.underlying29 (hval 0 29 v0 rfl rfl)
  obtain ⟨fuel0, hf0⟩ := h0
  obtain ⟨a, b, c, hcs, hx⟩ := open_v3 hf0
  obtain rfl : c0 = arr3 a b c := Array.toList_inj.1 hcs
  rw [Tryd.params4] at hz
  obtain ⟨ha, hb, hc⟩ := v3_bound hz hx
  exact (c_law04_ValueChain a b c W ha hb hc hP hM).mono fun e W' ⟨he, hb⟩ => ⟨_, he, hpost W' hb⟩
set_option maxRecDepth 100000 in
theorem lifted (os : Os) (started : os.Started) (H : Type) (enc : TypeId × Value → H) :
    ReturnsInHanded {} Tryd.checked os 4 .any (fun w args => (Rows.valueChainSpec.pre enc Tryd.prog Tryd.f4 [] false w args ∧ laidMetH Tryd.prog laidP w) ∧ sizedMet enc Tryd.prog Tryd.f4 (OpenSpec.ofChange Rows.valueChainSpec) false w args)
      (Rows.valueChainSpec.post enc Tryd.prog Tryd.f4 false true false false) := by
  refine returns_and_shaped (C := Tryd.checked) (X := fun w _ => laidMetH Tryd.prog laidP w) (fun _ _ _ hh h => h.of_heap hh) ownKnob_none started (by kernel_rfl) Tryd.func4
    (ChangeSpec.witness_shaped (enc := enc) (C := Tryd.checked) (os := os) (X := fun w _ => laidMetH Tryd.prog laidP w) false (World.doorLaid Tryd.prog 400 os) #[.agg (arr3 ⟨0, 0, []⟩ ⟨0, 0, []⟩ ⟨0, 0, []⟩)] 8 rfl (World.shaped_of_RefB (by kernel_rfl) (by kernel_rfl)) (by kernel_rfl) (by kernel_rfl) (by kernel_rfl) (door_metP os _)) ?_
  intro W base args ds gs before hval hW hz hL hsh
  exact contract H enc W base args ds gs before hval hW hz (pow_of_laid hL) (MaxV.of hsh)
theorem row : Rows.ValueChainSaid :=
  OpenClaim.holds_of_wide 4 Tryd.f4 rfl rfl rfl rfl rfl rfl rfl ⟨rfl, rfl, rfl, rfl, rfl⟩ rfl rfl rfl rfl rfl (by kernel_rfl) Tryd.func4 (by kernel_rfl)
    (of_decide_eq_true (by kernel_rfl)) (by unfold Func.isWrapper; rw [if_neg (of_decide_eq_false (by kernel_rfl))]; exact ⟨rfl, rfl⟩)
    (fun os started H enc _ => lifted os started H enc)
theorem proved : Rows.ValueChainCardSaid :=
  Claim7.holds_tied_plain_at .later [] [.data, .data, .data] true _ false row (fun _ h => by cases h) (by kernel_rfl) (fun _ h => by cases h) valueChain_row_tie rfl ⟨rfl, rfl⟩ (by kernel_rfl) rfl
    (fun f fn hf hfn => by
      obtain rfl : f = 4 := Option.some.inj ((show Tryd.prog.funcNamed "offprint/offprintlaw04.ValueChain" = some 4 by kernel_rfl).symm.trans hf) |>.symm
      obtain rfl : fn = Tryd.f4 := (Option.some.inj (Tryd.func4.symm.trans hfn)).symm
      exact ⟨by kernel_rfl, fun j t ht => by
        have hall : (Tryd.f4.params.toList.all fun u => !Tryd.prog.wantsStandIn u) = true := by kernel_rfl
        have hm := List.all_eq_true.1 hall t (by have := Array.mem_of_getElem? ht; simpa using this)
        show Tryd.prog.wantsStandIn t = false
        simpa using hm⟩)
    (by kernel_rfl)
end Go.Proofs.YtkofjkadmknmjaaDoor.clValueChain
