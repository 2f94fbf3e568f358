/-
  Lemmas (walks and plain laws), in one text.
-/
import Derived.Test.YtkofjkadmknmjaaDoorVb13
import Derived.Test.YtkofjkadmknmjaaDoorRows
import Derived.WalkKit
import Derived.WalkSpells
import Derived.WalkLawsBesides
import Derived.Lib.Hide
import Derived.Deep.QuietTactic
import Derived.BigQuiet
import Derived.Maps.AppendAt
import Derived.WalkSmall
import Derived.ProofKit
import Derived.OpenShut
import Derived.JoinedCond
import Derived.Deep.Slices
import Derived.Deep.Fields
import Derived.Carry
import Derived.Shelf.Small.Wraps
import Derived.Shelf.Utf8.RuneCount
import Derived.Shelf.Strconv.Itoa0
import Derived.Shelf.Strconv.Itoa1
import Derived.Shelf.LaysM
import Derived.Shelf.Strconv.Itoa2
import Derived.Shelf.Strconv.Itoa3
import Derived.Shelf.Strings.Search1
import Derived.Shelf.Strings.Search2
import Derived.Shelf.Strings.Search3
import Derived.Shelf.Strings.Count
import Derived.Shelf.Strings.Shaped
import Derived.Shelf.Strings.Prefix
import Derived.Shelf.Strings.Split
import Derived.Shelf.Strings.SplitShaped
import Derived.Shelf.Unicode.DecodeSlow
import Derived.Test.YtkofjkadmknmjaaDoorProg
import Derived.Deep.AppendSrc
import Derived.Lib.AppendStr
import Derived.Laws.BytesArg
import Derived.Lib.AppendIntMem
import Derived.Lib.ItoaLen
import Derived.Test.YtkofjkadmknmjaaDoorTie
import Derived.Lib.LaidTab
import Derived.LaidMore
import Derived.Stop.LaidErr
import Derived.SevenTiedAt
import Derived.HandedShaped
import Derived.Test.YtkofjkadmknmjaaDoorCards
import Derived.Deep.CutBlock
import Derived.Deep.DeepCutAuto
import Derived.Laws.IdiomStrings
import Derived.Outline
import Derived.IntWalk
import Derived.StillTail
import Derived.Laws.Tables
import Derived.Laws.Rows
import Derived.ChangeKeysEq
import Derived.Laws.StructEq
import Derived.Lib.AppendZeros
import Derived.Deep.Quiet
import Derived.OwnWalk
import Derived.Lib.TrailingZeros
import Derived.Lib.SplitLaws
import Derived.Lib.ItoaNum
import Derived.Shelf.Strings.PiecesUse
namespace Go.Proofs.YtkofjkadmknmjaaDoor
open Go.RowKit

set_option maxHeartbeats 1000000 in
theorem c_value_Show (x : Val) (w : World) (hs : x.s.length ≤ 9223372036854775807) (hP : PowTab w) : Calls Tryd.prog 28 #[.agg x.c3] w (RetV w (.string (str (showV x)))) := by
  have B0 := Lib.hid (At.new w 23 x.c3)
  have q0 := B0.out.2.cell (show x.c3[0]? = _ from rfl)
  have q1 := B0.out.2.cell (show x.c3[1]? = _ from rfl)
  have q2 := B0.out.2.cell (show x.c3[2]? = _ from rfl)
  have CC := Lib.hid (fun w' => show Calls Tryd.prog 14 #[.agg x.c3] w' (RetV w' (.bool x.ok)) from c_value_Check x w' hs)
  have HP := Lib.hid hP
  clear hP
  cases hok : x.ok
  case false =>
    rw [hok] at CC
    rw [showV_bad hok]
    clear hok
    go_enter Tryd.func28, Tryd.ntmps28
    go_wp2_with (fail)
    refine (CC.out _).mono ?_
    rintro e w1 ⟨rfl, hb1⟩
    go_wp2_with (fail)
    go_ret
    exact RetV.of rfl (B0.out.1.trans (hb1.mono B0.out.1.size))
  case true =>
    rw [hok] at CC
    have hcs : x.kind = 1 ∨ (x.kind ≠ 1 ∧ x.kind = 2) ∨ (x.kind ≠ 1 ∧ x.kind ≠ 2) := by omega
    rcases hcs with g1 | ⟨g1, g2⟩ | ⟨g1, g2⟩
    · obtain ⟨b0, b1⟩ := Val.num_bd hok g1
      obtain ⟨m, hm⟩ : ∃ m : Nat, x.n = m := ⟨x.n.toNat, by omega⟩
      have E := Lib.hid (show showV x = tens m by rw [showV_num hok g1, hm]; rfl)
      have CT := Lib.hid (fun w' (hb : Below w.heap.size w w') => show Calls Tryd.prog 35 #[.int .i64 x.n] w' (RetV w' (.string (str (tens m)))) by rw [hm, ← itoa_nat]; exact c_bits_Tens m w' (by omega) (by omega) (HP.out.below hb))
      have j1 : (x.kind == 1) = true := by simpa using g1
      clear hok g1 hm b0 b1
      rw [E.out]
      go_enter Tryd.func28, Tryd.ntmps28
      go_wp2_with (fail)
      refine (CC.out _).mono ?_
      rintro e w1 ⟨rfl, hb1⟩
      replace B0 := Lib.hid (B0.out.step hb1)
      clear q0 q1 q2 hb1
      have q0 := B0.out.2.cell (show x.c3[0]? = _ from rfl)
      have q1 := B0.out.2.cell (show x.c3[1]? = _ from rfl)
      have q2 := B0.out.2.cell (show x.c3[2]? = _ from rfl)
      go_wp2_with (fail)
      refine (CT.out _ B0.out.1).mono ?_
      rintro e w2 ⟨rfl, hb2⟩
      go_wp2_with (fail)
      go_ret
      exact RetV.of rfl (B0.out.1.trans (hb2.mono B0.out.1.size))
    · have E := Lib.hid (showV_text hok g2)
      have hl := Val.text_bd hok g2
      have CQ := Lib.hid (fun w' => c_value_Quote x.s w' (by omega))
      have j1 : (x.kind == 1) = false := by simpa using g1
      have j2 : (x.kind == 2) = true := by simpa using g2
      clear hok g1 g2
      rw [E.out]
      go_enter Tryd.func28, Tryd.ntmps28
      go_wp2_with (fail)
      refine (CC.out _).mono ?_
      rintro e w1 ⟨rfl, hb1⟩
      replace B0 := Lib.hid (B0.out.step hb1)
      clear q0 q1 q2 hb1
      have q0 := B0.out.2.cell (show x.c3[0]? = _ from rfl)
      have q1 := B0.out.2.cell (show x.c3[1]? = _ from rfl)
      have q2 := B0.out.2.cell (show x.c3[2]? = _ from rfl)
      go_wp2_with (fail)
      refine (CQ.out _).mono ?_
      rintro e w2 ⟨rfl, hb2⟩
      go_wp2_with (fail)
      go_ret
      exact RetV.of rfl (B0.out.1.trans (hb2.mono B0.out.1.size))
    · have E := Lib.hid (showV_none hok g1 g2)
      have j1 : (x.kind == 1) = false := by simpa using g1
      have j2 : (x.kind == 2) = false := by simpa using g2
      clear hok g1 g2
      rw [E.out]
      go_enter Tryd.func28, Tryd.ntmps28
      go_wp2_with (fail)
      refine (CC.out _).mono ?_
      rintro e w1 ⟨rfl, hb1⟩
      replace B0 := Lib.hid (B0.out.step hb1)
      clear q0 q1 q2 hb1
      have q0 := B0.out.2.cell (show x.c3[0]? = _ from rfl)
      go_wp2_with (fail)
      go_ret
      exact RetV.of rfl B0.out.1
/-- Does a text stand in another one? -/
def Val.holds (v p : Val) : Bool := decide (v.kind = 2) && decide (p.kind = 2) && Lib.contains (fold v.s) (fold p.s)
theorem Val.holds_no {v p : Val} (h : ¬ (v.kind = 2 ∧ p.kind = 2)) : v.holds p = false := by
  unfold Val.holds
  rw [Bool.and_eq_false_iff]
  left
  rw [Bool.and_eq_false_iff, decide_eq_false_iff_not, decide_eq_false_iff_not]
  omega
theorem Val.holds_yes {v p : Val} (h1 : v.kind = 2) (h2 : p.kind = 2) : v.holds p = Lib.contains (fold v.s) (fold p.s) := by
  unfold Val.holds
  rw [decide_eq_true h1, decide_eq_true h2]; rfl
set_option maxHeartbeats 1000000 in
theorem c_value_Holds (x y : Val) (w : World) (hM : MaxV w) (hx : x.s.length ≤ 1000000) (hy : y.s.length ≤ 1000000) : Calls Tryd.prog 22 #[x.val, y.val] w (RetV w (.bool (x.holds y))) := by
  have HM := Lib.hid (fun w' (hb : Below w.heap.size w w') => hM.below hb)
  have hfx := fold_len x.s
  unfold Val.val
  by_cases h1 : x.kind = 2
  · have j1 : (x.kind == 2) = true := by simpa using h1
    by_cases h2 : y.kind = 2
    · have j2 : (y.kind == 2) = true := by simpa using h2
      have H := Lib.hid (Val.holds_yes h1 h2)
      clear h1 h2
      go_enter Tryd.func22, Tryd.ntmps22
      go_wp2_with (fail)
      refine wp_region_grow (by kernel_rfl) (by kernel_rfl) ?_
      repeat (quiet_step ((first | (go_at_call 20; exact quiet_grow (c_value_Fold _ _ (by omega))) | (go_at_call 73; exact quiet_grow (c_Contains _ _ _ (HM.out _ (Below.trans (by repeat (first | exact Below.refl _ _ | refine Below.drew ?_ | refine Below.alloc ?_ (by first | omega | (simp; done) | (simp; omega)) _ | refine Below.setCell ?_ (by first | omega | (simp; done) | (simp; omega)) _ | refine Below.trans ?_ (Below.mono (by assumption) (by first | omega | (simp; done) | (simp; omega))))) ((grow_below _ _).mono (by simp; omega)))) (by omega))))))
      refine wpQuiet_nil ?_
      intro w2 hb2
      go_wp2_with (fail)
      go_ret
      exact RetV.bool H.out.symm (Below.trans (by repeat (first | exact Below.refl _ _ | refine Below.drew ?_ | refine Below.alloc ?_ (by first | omega | (simp; done) | (simp; omega)) _ | refine Below.setCell ?_ (by first | omega | (simp; done) | (simp; omega)) _ | refine Below.trans ?_ (Below.mono (by assumption) (by first | omega | (simp; done) | (simp; omega))))) (hb2.mono (by simp; omega)))
    · have j2 : (y.kind == 2) = false := by simpa using h2
      rw [Val.holds_no (fun h => h2 h.2)]
      clear h1 h2
      go_enter Tryd.func22, Tryd.ntmps22
      go_wp2_with (fail)
      refine wp_region_grow (by kernel_rfl) (by kernel_rfl) ?_
      repeat (quiet_step ((first | (fail))))
      refine wpQuiet_nil ?_
      intro w2 hb2
      go_wp2_with (fail)
      go_ret
      exact RetV.bool rfl (Below.trans (by repeat (first | exact Below.refl _ _ | refine Below.drew ?_ | refine Below.alloc ?_ (by first | omega | (simp; done) | (simp; omega)) _ | refine Below.setCell ?_ (by first | omega | (simp; done) | (simp; omega)) _ | refine Below.trans ?_ (Below.mono (by assumption) (by first | omega | (simp; done) | (simp; omega))))) (hb2.mono (by simp; omega)))
  · have j1 : (x.kind == 2) = false := by simpa using h1
    rw [Val.holds_no (fun h => h1 h.1)]
    clear h1
    go_enter Tryd.func22, Tryd.ntmps22
    go_wp2_with (fail)
    refine wp_region_grow (by kernel_rfl) (by kernel_rfl) ?_
    repeat (quiet_step ((first | (fail))))
    refine wpQuiet_nil ?_
    intro w2 hb2
    go_wp2_with (fail)
    go_ret
    exact RetV.bool rfl (Below.trans (by repeat (first | exact Below.refl _ _ | refine Below.drew ?_ | refine Below.alloc ?_ (by first | omega | (simp; done) | (simp; omega)) _ | refine Below.setCell ?_ (by first | omega | (simp; done) | (simp; omega)) _ | refine Below.trans ?_ (Below.mono (by assumption) (by first | omega | (simp; done) | (simp; omega))))) (hb2.mono (by simp; omega)))
end Go.Proofs.YtkofjkadmknmjaaDoor
namespace Go.Proofs.YtkofjkadmknmjaaDoor
open Go.RowKit

section
variable {P : Program} {w : World}
end
theorem gV : Tryd.prog.eqGuardType Tryd.prog.depth 23 = false := by kernel_rfl
end Go.Proofs.YtkofjkadmknmjaaDoor
namespace Go.Proofs.YtkofjkadmknmjaaDoor
open Go.RowKit

theorem quote_ex : quote [97, 34, 98] = [34, 97, 92, 34, 98, 34] := by decide
theorem holds_ex : (⟨2, 0, [65, 98, 99]⟩ : Val).holds ⟨2, 0, [66, 67]⟩ = true := by decide +kernel
set_option maxHeartbeats 1000000 in
theorem c_law04_awake (w : World) (hP : PowTab w) (hM : MaxV w) : Calls Tryd.prog 13 #[] w (RetV w (.bool true)) := by
  have C1 := Lib.hid (show ∀ w', Below w.heap.size w w' → Calls Tryd.prog 28 #[.agg (⟨2, 0, [97, 34, 98]⟩ : Val).c3] w' (RetV w' (.string (str [34, 97, 92, 34, 98, 34]))) from fun w' hb => by
    have := c_value_Show ⟨2, 0, [97, 34, 98]⟩ w' (by simp) (hP.below hb)
    rw [showV_text (by decide) rfl, quote_ex] at this
    exact this)
  have C2 := Lib.hid (show ∀ w', Below w.heap.size w w' → Calls Tryd.prog 22 #[(⟨2, 0, [65, 98, 99]⟩ : Val).val, (⟨2, 0, [66, 67]⟩ : Val).val] w' (RetV w' (.bool true)) from fun w' hb => by
    have := c_value_Holds ⟨2, 0, [65, 98, 99]⟩ ⟨2, 0, [66, 67]⟩ w' (hM.below hb) (by simp) (by simp)
    rw [holds_ex] at this
    exact this)
  clear hP hM
  go_enter Tryd.func13, Tryd.ntmps13
  go_wp2_with (fail)
  refine (C1.out _ (Below.refl _ _)).mono ?_
  rintro e w1 ⟨rfl, hb1⟩
  go_wp2_with (fail)
  refine (C2.out _ hb1).mono ?_
  rintro e w2 ⟨rfl, hb2⟩
  go_wp2_with (fail)
  go_ret
  exact RetV.bool rfl (hb1.trans (hb2.mono hb1.size))
end Go.Proofs.YtkofjkadmknmjaaDoor
namespace Go.Proofs.YtkofjkadmknmjaaDoor
open Go.RowKit

set_option maxHeartbeats 4000000 in
set_option maxRecDepth 4000 in
theorem c_law04_ValueTexts (v : Val) (t : List UInt8) (w : World) (hsv : v.s.length ≤ 9223372036854775807) (hst : t.length ≤ 9223372036854775807) (hP : PowTab w) (hM : MaxV w) :
    Calls Tryd.prog 5 #[v.val, .string (str t)] w (RetV w (.bool true)) := by
  have HP := Lib.hid (fun w' (hb : Below w.heap.size w w') => hP.below hb)
  have HM := Lib.hid (fun w' (hb : Below w.heap.size w w') => hM.below hb)
  clear hP hM
  by_cases h : 500 < v.s.length ∨ 500 < t.length
  · cases d1 : decide ((500 : Int) < (v.s.length : Int))
    · have d2 : decide ((500 : Int) < (t.length : Int)) = true := by simp at d1 ⊢; omega
      clear h
      unfold Val.val
      go_enter Tryd.func5, Tryd.ntmps5
      go_wp2_with (fail)
      refine (c_law04_awake _ (HP.out _ (by repeat (first | exact Below.refl _ _ | refine Below.drew ?_ | refine Below.alloc ?_ (by first | omega | (simp; done) | (simp; omega)) _ | refine Below.setCell ?_ (by first | omega | (simp; done) | (simp; omega)) _ | refine Below.trans ?_ (Below.mono (by assumption) (by first | omega | (simp; done) | (simp; omega)))))) (HM.out _ (by repeat (first | exact Below.refl _ _ | refine Below.drew ?_ | refine Below.alloc ?_ (by first | omega | (simp; done) | (simp; omega)) _ | refine Below.setCell ?_ (by first | omega | (simp; done) | (simp; omega)) _ | refine Below.trans ?_ (Below.mono (by assumption) (by first | omega | (simp; done) | (simp; omega))))))).mono ?_
      rintro e w1 ⟨rfl, hb1⟩
      go_wp2_with (fail)
      go_ret
      exact RetV.bool rfl (Below.trans (by repeat (first | exact Below.refl _ _ | refine Below.drew ?_ | refine Below.alloc ?_ (by first | omega | (simp; done) | (simp; omega)) _ | refine Below.setCell ?_ (by first | omega | (simp; done) | (simp; omega)) _ | refine Below.trans ?_ (Below.mono (by assumption) (by first | omega | (simp; done) | (simp; omega))))) (hb1.mono (by simp)))
    · clear h
      unfold Val.val
      go_enter Tryd.func5, Tryd.ntmps5
      go_wp2_with (fail)
      refine (c_law04_awake _ (HP.out _ (by repeat (first | exact Below.refl _ _ | refine Below.drew ?_ | refine Below.alloc ?_ (by first | omega | (simp; done) | (simp; omega)) _ | refine Below.setCell ?_ (by first | omega | (simp; done) | (simp; omega)) _ | refine Below.trans ?_ (Below.mono (by assumption) (by first | omega | (simp; done) | (simp; omega)))))) (HM.out _ (by repeat (first | exact Below.refl _ _ | refine Below.drew ?_ | refine Below.alloc ?_ (by first | omega | (simp; done) | (simp; omega)) _ | refine Below.setCell ?_ (by first | omega | (simp; done) | (simp; omega)) _ | refine Below.trans ?_ (Below.mono (by assumption) (by first | omega | (simp; done) | (simp; omega))))))).mono ?_
      rintro e w1 ⟨rfl, hb1⟩
      go_wp2_with (fail)
      go_ret
      exact RetV.bool rfl (Below.trans (by repeat (first | exact Below.refl _ _ | refine Below.drew ?_ | refine Below.alloc ?_ (by first | omega | (simp; done) | (simp; omega)) _ | refine Below.setCell ?_ (by first | omega | (simp; done) | (simp; omega)) _ | refine Below.trans ?_ (Below.mono (by assumption) (by first | omega | (simp; done) | (simp; omega))))) (hb1.mono (by simp)))
  · have d1 : decide ((500 : Int) < (v.s.length : Int)) = false := by simp; omega
    have d2 : decide ((500 : Int) < (t.length : Int)) = false := by simp; omega
    have lv : v.s.length ≤ 500 := by omega
    have lt : t.length ≤ 500 := by omega
    clear h
    obtain ⟨x, hx⟩ : ∃ x, x = (valR t).getD vz := ⟨_, rfl⟩
    obtain ⟨k, hk⟩ : ∃ k, k = (valR t).isSome := ⟨_, rfl⟩
    have CR := Lib.hid (fun w' => show Calls Tryd.prog 24 #[.string (str t)] w' (RetV w' (.tuple #[.agg x.c3, .bool k])) by rw [hx, hk]; exact c_value_Read t w' (by omega))
    have CS := Lib.hid (fun w' => show Calls Tryd.prog 25 #[.string (str t)] w' (RetV w' (.tuple #[.agg x.c3, .bool k])) by rw [hx, hk]; exact c_ref04_Read t w' (by omega))
    clear hx hk
    have gv := gV
    have he := fun w' => show (Op.equalIn 10000 23 (.agg #[.int .i64 x.kind, .int .i64 x.n, .string (str x.s)]) (.agg #[.int .i64 x.kind, .int .i64 x.n, .string (str x.s)])).run Tryd.prog w' = .ok true w' from by have := eq_val 9998 x x w'; rw [decide_eq_true rfl] at this; exact this
    have hkk : (k == k) = true := by simp
    unfold Val.val
    go_enter Tryd.func5, Tryd.ntmps5
    go_wp2_with (fail)
    refine (CR.out _).mono ?_
    rintro e w1 ⟨rfl, hb1⟩
    have hz1 := hb1.size
    simp only [World.size_alloc] at hz1
    have q1 := fun o => hb1.cell (p := ⟨w.heap.size, o, none⟩) (by simp)
    go_wp2_with (fail)
    refine (CS.out _).mono ?_
    rintro e w2 ⟨rfl, hb2⟩
    have hz2 := hb2.size
    simp only [World.size_alloc] at hz2
    have q2 := fun o => hb2.cell (p := ⟨w.heap.size, o, none⟩) (by show w.heap.size < _; simp; omega)
    have r2 := fun o => hb2.cell (p := ⟨w1.heap.size, o, none⟩) (by show w1.heap.size < _; simp)
    go_wp2_with (fail)
    have BV := ((((At.new w 23 v.c3).step hb1).alloc (.cells x.c3 23)).step hb2).alloc (.cells x.c3 23)
    have BX0 := Blk.new w1 23 x.c3
    have BX1 := BX0.below hb2 BX0.lt
    have BX := BX1.below ((Below.refl w2.heap.size w2).alloc (Nat.le_refl _) (.cells x.c3 23)) BX1.lt
    have BY := Blk.new w2 23 x.c3
    have B2 := Lib.hid BV.1
    have c0 := BV.2.cell (show v.c3[0]? = some (.int .i64 v.kind) from rfl)
    have c1 := BV.2.cell (show v.c3[1]? = some (.int .i64 v.n) from rfl)
    have c2 := BV.2.cell (show v.c3[2]? = some (.string (str v.s)) from rfl)
    have x0 := BX.cell (show x.c3[0]? = some (.int .i64 x.kind) from rfl)
    have x1 := BX.cell (show x.c3[1]? = some (.int .i64 x.n) from rfl)
    have x2 := BX.cell (show x.c3[2]? = some (.string (str x.s)) from rfl)
    have y0 := BY.cell (show x.c3[0]? = some (.int .i64 x.kind) from rfl)
    have y1 := BY.cell (show x.c3[1]? = some (.int .i64 x.n) from rfl)
    have y2 := BY.cell (show x.c3[2]? = some (.string (str x.s)) from rfl)
    have u1 := BV.2.lt
    have u2 := BX.lt
    have u3 := BY.lt
    clear BV BX BX0 BX1 BY hb1 hb2 q1 q2 r2
    obtain ⟨W3, hW3⟩ : ∃ W3, w2.alloc (.cells x.c3 23) = W3 := ⟨_, rfl⟩
    rw [hW3] at B2 c0 c1 c2 x0 x1 x2 y0 y1 y2 u1 u2 u3 ⊢
    clear hW3 hz2
    refine wp_region_grow (by kernel_rfl) (by kernel_rfl) ?_
    repeat (quiet_step ((first | (go_at_call 26; exact quiet_grow (c_value_Quote v.s _ (by omega))) | (go_at_call 27; exact quiet_grow (c_ref04_Quote v.s _ (by omega))) | (go_at_call 28; exact quiet_grow (c_value_Show v _ (by omega) (HP.out _ (B2.out.trans ((grow_below _ _).mono B2.out.size))))) | (go_at_call 29; exact quiet_grow (c_ref04_Show v _ (by omega))) | (go_at_call 13; exact quiet_grow (c_law04_awake _ (HP.out _ (B2.out.trans ((grow_below _ _).mono B2.out.size))) (HM.out _ (B2.out.trans ((grow_below _ _).mono B2.out.size))))))))
    refine wpQuiet_nil ?_
    intro w3 hb3
    go_wp2_with (fail)
    go_ret
    exact RetV.bool rfl (B2.out.trans (hb3.mono B2.out.size))
/-! A value that may be is read of its text. -/
end Go.Proofs.YtkofjkadmknmjaaDoor
