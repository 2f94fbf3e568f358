/-
  Lemmas (walks and plain laws), in one text.
-/
import Derived.Test.YtkofjkadmknmjaaDoorVa7
import Derived.Test.YtkofjkadmknmjaaDoorRows
import Derived.WalkKit
import Derived.WalkSpells
import Derived.WalkLawsBesides
import Derived.Lib.Hide
import Derived.Deep.QuietTactic
import Derived.BigQuiet
import Derived.Maps.AppendAt
import Derived.WalkSmall
import Derived.ProofKit
import Derived.OpenShut
import Derived.JoinedCond
import Derived.Deep.Slices
import Derived.Deep.Fields
import Derived.Carry
import Derived.Shelf.Small.Wraps
import Derived.Shelf.Utf8.RuneCount
import Derived.Shelf.Strconv.Itoa0
import Derived.Shelf.Strconv.Itoa1
import Derived.Shelf.LaysM
import Derived.Shelf.Strconv.Itoa2
import Derived.Shelf.Strconv.Itoa3
import Derived.Shelf.Strings.Search1
import Derived.Shelf.Strings.Search2
import Derived.Shelf.Strings.Search3
import Derived.Shelf.Strings.Count
import Derived.Shelf.Strings.Shaped
import Derived.Shelf.Strings.Prefix
import Derived.Shelf.Strings.Split
import Derived.Shelf.Strings.SplitShaped
import Derived.Shelf.Unicode.DecodeSlow
import Derived.Test.YtkofjkadmknmjaaDoorProg
import Derived.Deep.AppendSrc
import Derived.Lib.AppendStr
import Derived.Laws.BytesArg
import Derived.Lib.AppendIntMem
import Derived.Lib.ItoaLen
import Derived.Test.YtkofjkadmknmjaaDoorTie
import Derived.Lib.LaidTab
import Derived.LaidMore
import Derived.Stop.LaidErr
import Derived.SevenTiedAt
import Derived.HandedShaped
import Derived.Test.YtkofjkadmknmjaaDoorCards
import Derived.Deep.CutBlock
import Derived.Deep.DeepCutAuto
import Derived.Laws.IdiomStrings
import Derived.Outline
import Derived.IntWalk
import Derived.StillTail
import Derived.Laws.Tables
import Derived.Laws.Rows
import Derived.ChangeKeysEq
import Derived.Laws.StructEq
import Derived.Lib.AppendZeros
import Derived.Deep.Quiet
import Derived.OwnWalk
import Derived.Lib.TrailingZeros
import Derived.Lib.SplitLaws
import Derived.Lib.ItoaNum
import Derived.Shelf.Strings.PiecesUse
namespace Go.Proofs.YtkofjkadmknmjaaDoor
open Go.RowKit

set_option maxHeartbeats 1000000 in
theorem c_value_Show (x : Val) (w : World) (hs : x.s.length ≤ 9223372036854775807) (hP : PowTab w) : Calls Tryd.prog 28 #[.agg x.c3] w (RetV w (.string (str (showV x)))) := by
  have B0 := Lib.hid (At.new w 23 x.c3)
  have q0 := B0.out.2.cell (show x.c3[0]? = _ from rfl)
  have q1 := B0.out.2.cell (show x.c3[1]? = _ from rfl)
  have q2 := B0.out.2.cell (show x.c3[2]? = _ from rfl)
  have CC := Lib.hid (fun w' => show Calls Tryd.prog 14 #[.agg x.c3] w' (RetV w' (.bool x.ok)) from c_value_Check x w' hs)
  have HP := Lib.hid hP
  clear hP
  cases hok : x.ok
  case false =>
    rw [hok] at CC
    rw [showV_bad hok]
    clear hok
    go_enter Tryd.func28, Tryd.ntmps28
    go_wp2_with (fail)
    refine (CC.out _).mono ?_
    rintro e w1 ⟨rfl, hb1⟩
    go_wp2_with (fail)
    go_ret
    exact RetV.of rfl (B0.out.1.trans (hb1.mono B0.out.1.size))
  case true =>
    rw [hok] at CC
    have hcs : x.kind = 1 ∨ (x.kind ≠ 1 ∧ x.kind = 2) ∨ (x.kind ≠ 1 ∧ x.kind ≠ 2) := by omega
    rcases hcs with g1 | ⟨g1, g2⟩ | ⟨g1, g2⟩
    · obtain ⟨b0, b1⟩ := Val.num_bd hok g1
      obtain ⟨m, hm⟩ : ∃ m : Nat, x.n = m := ⟨x.n.toNat, by omega⟩
      have E := Lib.hid (show showV x = tens m by rw [showV_num hok g1, hm]; rfl)
      have CT := Lib.hid (fun w' (hb : Below w.heap.size w w') => show Calls Tryd.prog 35 #[.int .i64 x.n] w' (RetV w' (.string (str (tens m)))) by rw [hm, ← itoa_nat]; exact c_bits_Tens m w' (by omega) (by omega) (HP.out.below hb))
      have j1 : (x.kind == 1) = true := by simpa using g1
      clear hok g1 hm b0 b1
      rw [E.out]
      go_enter Tryd.func28, Tryd.ntmps28
      go_wp2_with (fail)
      refine (CC.out _).mono ?_
      rintro e w1 ⟨rfl, hb1⟩
      replace B0 := Lib.hid (B0.out.step hb1)
      clear q0 q1 q2 hb1
      have q0 := B0.out.2.cell (show x.c3[0]? = _ from rfl)
      have q1 := B0.out.2.cell (show x.c3[1]? = _ from rfl)
      have q2 := B0.out.2.cell (show x.c3[2]? = _ from rfl)
      go_wp2_with (fail)
      refine (CT.out _ B0.out.1).mono ?_
      rintro e w2 ⟨rfl, hb2⟩
      go_wp2_with (fail)
      go_ret
      exact RetV.of rfl (B0.out.1.trans (hb2.mono B0.out.1.size))
    · have E := Lib.hid (showV_text hok g2)
      have hl := Val.text_bd hok g2
      have CQ := Lib.hid (fun w' => c_value_Quote x.s w' (by omega))
      have j1 : (x.kind == 1) = false := by simpa using g1
      have j2 : (x.kind == 2) = true := by simpa using g2
      clear hok g1 g2
      rw [E.out]
      go_enter Tryd.func28, Tryd.ntmps28
      go_wp2_with (fail)
      refine (CC.out _).mono ?_
      rintro e w1 ⟨rfl, hb1⟩
      replace B0 := Lib.hid (B0.out.step hb1)
      clear q0 q1 q2 hb1
      have q0 := B0.out.2.cell (show x.c3[0]? = _ from rfl)
      have q1 := B0.out.2.cell (show x.c3[1]? = _ from rfl)
      have q2 := B0.out.2.cell (show x.c3[2]? = _ from rfl)
      go_wp2_with (fail)
      refine (CQ.out _).mono ?_
      rintro e w2 ⟨rfl, hb2⟩
      go_wp2_with (fail)
      go_ret
      exact RetV.of rfl (B0.out.1.trans (hb2.mono B0.out.1.size))
    · have E := Lib.hid (showV_none hok g1 g2)
      have j1 : (x.kind == 1) = false := by simpa using g1
      have j2 : (x.kind == 2) = false := by simpa using g2
      clear hok g1 g2
      rw [E.out]
      go_enter Tryd.func28, Tryd.ntmps28
      go_wp2_with (fail)
      refine (CC.out _).mono ?_
      rintro e w1 ⟨rfl, hb1⟩
      replace B0 := Lib.hid (B0.out.step hb1)
      clear q0 q1 q2 hb1
      have q0 := B0.out.2.cell (show x.c3[0]? = _ from rfl)
      go_wp2_with (fail)
      go_ret
      exact RetV.of rfl B0.out.1
/-- Does a text stand in another one? -/
def Val.holds (v p : Val) : Bool := decide (v.kind = 2) && decide (p.kind = 2) && Lib.contains (fold v.s) (fold p.s)
theorem Val.holds_no {v p : Val} (h : ¬ (v.kind = 2 ∧ p.kind = 2)) : v.holds p = false := by
  unfold Val.holds
  rw [Bool.and_eq_false_iff]
  left
  rw [Bool.and_eq_false_iff, decide_eq_false_iff_not, decide_eq_false_iff_not]
  omega
theorem Val.holds_yes {v p : Val} (h1 : v.kind = 2) (h2 : p.kind = 2) : v.holds p = Lib.contains (fold v.s) (fold p.s) := by
  unfold Val.holds
  rw [decide_eq_true h1, decide_eq_true h2]; rfl
theorem occ_take (a b : List UInt8) (i : Nat) : Lib.occAt a b i = decide ((a.drop i).take b.length = b) := by
  unfold Lib.occAt
  rw [Bool.eq_iff_iff, List.isPrefixOf_iff_prefix, List.prefix_iff_eq_take, decide_eq_true_eq]
  exact ⟨Eq.symm, Eq.symm⟩
set_option maxHeartbeats 1000000 in
theorem c_value_Holds (x y : Val) (w : World) (hM : MaxV w) (hx : x.s.length ≤ 1000000) (hy : y.s.length ≤ 1000000) : Calls Tryd.prog 22 #[x.val, y.val] w (RetV w (.bool (x.holds y))) := by
  have HM := Lib.hid (fun w' (hb : Below w.heap.size w w') => hM.below hb)
  have hfx := fold_len x.s
  unfold Val.val
  by_cases h1 : x.kind = 2
  · have j1 : (x.kind == 2) = true := by simpa using h1
    by_cases h2 : y.kind = 2
    · have j2 : (y.kind == 2) = true := by simpa using h2
      have H := Lib.hid (Val.holds_yes h1 h2)
      clear h1 h2
      go_enter Tryd.func22, Tryd.ntmps22
      go_wp2_with (fail)
      refine wp_region_grow (by kernel_rfl) (by kernel_rfl) ?_
      repeat (quiet_step ((first | (go_at_call 20; exact quiet_grow (c_value_Fold _ _ (by omega))) | (go_at_call 73; exact quiet_grow (c_Contains _ _ _ (HM.out _ (Below.trans (by repeat (first | exact Below.refl _ _ | refine Below.drew ?_ | refine Below.alloc ?_ (by first | omega | (simp; done) | (simp; omega)) _ | refine Below.setCell ?_ (by first | omega | (simp; done) | (simp; omega)) _ | refine Below.trans ?_ (Below.mono (by assumption) (by first | omega | (simp; done) | (simp; omega))))) ((grow_below _ _).mono (by simp; omega)))) (by omega))))))
      refine wpQuiet_nil ?_
      intro w2 hb2
      go_wp2_with (fail)
      go_ret
      exact RetV.bool H.out.symm (Below.trans (by repeat (first | exact Below.refl _ _ | refine Below.drew ?_ | refine Below.alloc ?_ (by first | omega | (simp; done) | (simp; omega)) _ | refine Below.setCell ?_ (by first | omega | (simp; done) | (simp; omega)) _ | refine Below.trans ?_ (Below.mono (by assumption) (by first | omega | (simp; done) | (simp; omega))))) (hb2.mono (by simp; omega)))
    · have j2 : (y.kind == 2) = false := by simpa using h2
      rw [Val.holds_no (fun h => h2 h.2)]
      clear h1 h2
      go_enter Tryd.func22, Tryd.ntmps22
      go_wp2_with (fail)
      refine wp_region_grow (by kernel_rfl) (by kernel_rfl) ?_
      repeat (quiet_step ((first | (fail))))
      refine wpQuiet_nil ?_
      intro w2 hb2
      go_wp2_with (fail)
      go_ret
      exact RetV.bool rfl (Below.trans (by repeat (first | exact Below.refl _ _ | refine Below.drew ?_ | refine Below.alloc ?_ (by first | omega | (simp; done) | (simp; omega)) _ | refine Below.setCell ?_ (by first | omega | (simp; done) | (simp; omega)) _ | refine Below.trans ?_ (Below.mono (by assumption) (by first | omega | (simp; done) | (simp; omega))))) (hb2.mono (by simp; omega)))
  · have j1 : (x.kind == 2) = false := by simpa using h1
    rw [Val.holds_no (fun h => h1 h.1)]
    clear h1
    go_enter Tryd.func22, Tryd.ntmps22
    go_wp2_with (fail)
    refine wp_region_grow (by kernel_rfl) (by kernel_rfl) ?_
    repeat (quiet_step ((first | (fail))))
    refine wpQuiet_nil ?_
    intro w2 hb2
    go_wp2_with (fail)
    go_ret
    exact RetV.bool rfl (Below.trans (by repeat (first | exact Below.refl _ _ | refine Below.drew ?_ | refine Below.alloc ?_ (by first | omega | (simp; done) | (simp; omega)) _ | refine Below.setCell ?_ (by first | omega | (simp; done) | (simp; omega)) _ | refine Below.trans ?_ (Below.mono (by assumption) (by first | omega | (simp; done) | (simp; omega))))) (hb2.mono (by simp; omega)))
set_option maxHeartbeats 1000000 in
set_option maxRecDepth 4000 in
theorem c_ref04_Holds (x y : Val) (w : World) (hx : x.s.length ≤ 1000000) (hy : y.s.length ≤ 1000000) : Calls Tryd.prog 23 #[x.val, y.val] w (RetV w (.bool (x.holds y))) := by
  have hfx := fold_len x.s
  have hfy := fold_len y.s
  unfold Val.val
  by_cases h1 : x.kind = 2
  · have j1 : (x.kind != 2) = false := by simpa using h1
    by_cases h2 : y.kind = 2
    · have j2 : (y.kind != 2) = false := by simpa using h2
      have H := Lib.hid (Val.holds_yes h1 h2)
      clear h1 h2
      go_enter Tryd.func23, Tryd.ntmps23
      go_wp2_with (fail)
      refine wp_region_grow (by kernel_rfl) (by kernel_rfl) ?_
      repeat (quiet_step ((first | (go_at_call 21; exact quiet_grow (c_ref04_Fold _ _ (by omega))))))
      refine wpQuiet_nil ?_
      intro w2 hb2
      have B2 := Lib.hid (show Below w.heap.size w w2 from Below.trans (by repeat (first | exact Below.refl _ _ | refine Below.drew ?_ | refine Below.alloc ?_ (by first | omega | (simp; done) | (simp; omega)) _ | refine Below.setCell ?_ (by first | omega | (simp; done) | (simp; omega)) _ | refine Below.trans ?_ (Below.mono (by assumption) (by first | omega | (simp; done) | (simp; omega))))) (hb2.mono (by simp; omega)))
      clear hb2
      obtain ⟨a, ha⟩ : ∃ a, a = fold x.s := ⟨_, rfl⟩
      obtain ⟨b, hb⟩ : ∃ b, b = fold y.s := ⟨_, rfl⟩
      replace H := Lib.hid (by have := H.out; rw [← ha, ← hb] at this; exact this)
      rw [← ha] at hfx
      rw [← hb] at hfy
      have hla : a.length ≤ 1000000 := by omega
      have hlb : b.length ≤ 1000000 := by omega
      rw [← ha, ← hb]
      clear ha hb hfx hfy hx hy
      go_wp2_with (fail)
      go_loop [7] (fun i => ∃ k : Nat, i = .int .i64 k ∧ k ≤ a.length + 1 ∧ Hid (Lib.NoOcc a b k)) (fun i => a.length + 1 - (intOf i).toNat)
      case atStart => exact ⟨0, rfl, by omega, Lib.NoOcc.zero _ _⟩
      case round =>
        obtain ⟨k, rfl, hk, N⟩ := hrel
        have O := Lib.hid (occ_take a b k)
        by_cases hr : k + b.length ≤ a.length
        · have d1 : decide ((k : Int) ≤ (a.length : Int) - (b.length : Int)) = true := by simp; omega
          have hk0 : (0 : Int) ≤ (k : Int) := by omega
          cases q : ((a.drop k).take b.length == b)
          · have NX := Lib.hid (show Lib.occAt a b k = false by
              rw [O.out, decide_eq_false_iff_not]
              intro e
              rw [e] at q
              simp at q)
            go_wp2_with (fail)
            go_round
            case rel => exact ⟨k + 1, by go_num, by omega, N.out.succ NX.out⟩
            case measure => simp [intOf]; omega
          · have HY := Lib.hid (show Lib.contains a b = true by
              have e : (a.drop k).take b.length = b := by simpa using q
              have hi := Lib.index_hit N.out (by omega) (by rw [O.out, decide_eq_true e])
              unfold Lib.contains
              rw [hi]
              simp)
            go_wp2_with (fail)
            go_ret
            exact RetV.bool (by rw [H.out, HY.out]) B2.out
        · have d1 : decide ((k : Int) ≤ (a.length : Int) - (b.length : Int)) = false := by simp; omega
          have HN := Lib.hid (show Lib.contains a b = false by
            have hi : Lib.index a b = -1 := Lib.index_none fun j hj => by
              by_cases hjk : j < k
              · exact N.out j hjk
              · rw [occ_take, decide_eq_false_iff_not]
                intro e
                have := congrArg List.length e
                rw [List.length_take, List.length_drop] at this
                omega
            unfold Lib.contains
            rw [hi]
            rfl)
          go_wp2_with (fail)
          go_ret
          exact RetV.bool (by rw [H.out, HN.out]) B2.out
    · have j2 : (y.kind != 2) = true := by simpa using h2
      rw [Val.holds_no (fun h => h2 h.2)]
      clear h1 h2
      go_enter Tryd.func23, Tryd.ntmps23
      go_wp2_with (fail)
      go_ret
      exact RetV.bool rfl (by repeat (first | exact Below.refl _ _ | refine Below.drew ?_ | refine Below.alloc ?_ (by first | omega | (simp; done) | (simp; omega)) _ | refine Below.setCell ?_ (by first | omega | (simp; done) | (simp; omega)) _ | refine Below.trans ?_ (Below.mono (by assumption) (by first | omega | (simp; done) | (simp; omega)))))
  · have j1 : (x.kind != 2) = true := by simpa using h1
    rw [Val.holds_no (fun h => h1 h.1)]
    clear h1
    go_enter Tryd.func23, Tryd.ntmps23
    go_wp2_with (fail)
    go_ret
    exact RetV.bool rfl (by repeat (first | exact Below.refl _ _ | refine Below.drew ?_ | refine Below.alloc ?_ (by first | omega | (simp; done) | (simp; omega)) _ | refine Below.setCell ?_ (by first | omega | (simp; done) | (simp; omega)) _ | refine Below.trans ?_ (Below.mono (by assumption) (by first | omega | (simp; done) | (simp; omega)))))
end Go.Proofs.YtkofjkadmknmjaaDoor
namespace Go.Proofs.YtkofjkadmknmjaaDoor
open Go.RowKit

theorem quote_ex : quote [97, 34, 98] = [34, 97, 92, 34, 98, 34] := by decide
theorem holds_ex : (⟨2, 0, [65, 98, 99]⟩ : Val).holds ⟨2, 0, [66, 67]⟩ = true := by decide +kernel
set_option maxHeartbeats 1000000 in
theorem c_law04_awake (w : World) (hP : PowTab w) (hM : MaxV w) : Calls Tryd.prog 13 #[] w (RetV w (.bool true)) := by
  have C1 := Lib.hid (show ∀ w', Below w.heap.size w w' → Calls Tryd.prog 28 #[.agg (⟨2, 0, [97, 34, 98]⟩ : Val).c3] w' (RetV w' (.string (str [34, 97, 92, 34, 98, 34]))) from fun w' hb => by
    have := c_value_Show ⟨2, 0, [97, 34, 98]⟩ w' (by simp) (hP.below hb)
    rw [showV_text (by decide) rfl, quote_ex] at this
    exact this)
  have C2 := Lib.hid (show ∀ w', Below w.heap.size w w' → Calls Tryd.prog 22 #[(⟨2, 0, [65, 98, 99]⟩ : Val).val, (⟨2, 0, [66, 67]⟩ : Val).val] w' (RetV w' (.bool true)) from fun w' hb => by
    have := c_value_Holds ⟨2, 0, [65, 98, 99]⟩ ⟨2, 0, [66, 67]⟩ w' (hM.below hb) (by simp) (by simp)
    rw [holds_ex] at this
    exact this)
  clear hP hM
  go_enter Tryd.func13, Tryd.ntmps13
  go_wp2_with (fail)
  refine (C1.out _ (Below.refl _ _)).mono ?_
  rintro e w1 ⟨rfl, hb1⟩
  go_wp2_with (fail)
  refine (C2.out _ hb1).mono ?_
  rintro e w2 ⟨rfl, hb2⟩
  go_wp2_with (fail)
  go_ret
  exact RetV.bool rfl (hb1.trans (hb2.mono hb1.size))
set_option maxHeartbeats 2000000 in
set_option maxRecDepth 4000 in
theorem c_law04_ValueOrders (a b : Val) (w : World) (hsa : a.s.length ≤ 9223372036854775807) (hsb : b.s.length ≤ 9223372036854775807) (hP : PowTab w) (hM : MaxV w) :
    Calls Tryd.prog 3 #[a.val, b.val] w (RetV w (.bool true)) := by
  have HP := Lib.hid (fun w' (hb : Below w.heap.size w w') => hP.below hb)
  have HM := Lib.hid (fun w' (hb : Below w.heap.size w w') => hM.below hb)
  clear hP hM
  by_cases h : 500 < a.s.length ∨ 500 < b.s.length
  · cases d1 : decide ((500 : Int) < (a.s.length : Int))
    · have d2 : decide ((500 : Int) < (b.s.length : Int)) = true := by simp at d1 ⊢; omega
      clear h
      unfold Val.val
      go_enter Tryd.func3, Tryd.ntmps3
      go_wp2_with (fail)
      refine (c_law04_awake _ (HP.out _ (by repeat (first | exact Below.refl _ _ | refine Below.drew ?_ | refine Below.alloc ?_ (by first | omega | (simp; done) | (simp; omega)) _ | refine Below.setCell ?_ (by first | omega | (simp; done) | (simp; omega)) _ | refine Below.trans ?_ (Below.mono (by assumption) (by first | omega | (simp; done) | (simp; omega)))))) (HM.out _ (by repeat (first | exact Below.refl _ _ | refine Below.drew ?_ | refine Below.alloc ?_ (by first | omega | (simp; done) | (simp; omega)) _ | refine Below.setCell ?_ (by first | omega | (simp; done) | (simp; omega)) _ | refine Below.trans ?_ (Below.mono (by assumption) (by first | omega | (simp; done) | (simp; omega))))))).mono ?_
      rintro e w1 ⟨rfl, hb1⟩
      go_wp2_with (fail)
      go_ret
      exact RetV.bool rfl (Below.trans (by repeat (first | exact Below.refl _ _ | refine Below.drew ?_ | refine Below.alloc ?_ (by first | omega | (simp; done) | (simp; omega)) _ | refine Below.setCell ?_ (by first | omega | (simp; done) | (simp; omega)) _ | refine Below.trans ?_ (Below.mono (by assumption) (by first | omega | (simp; done) | (simp; omega))))) (hb1.mono (by simp; omega)))
    · clear h
      unfold Val.val
      go_enter Tryd.func3, Tryd.ntmps3
      go_wp2_with (fail)
      refine (c_law04_awake _ (HP.out _ (by repeat (first | exact Below.refl _ _ | refine Below.drew ?_ | refine Below.alloc ?_ (by first | omega | (simp; done) | (simp; omega)) _ | refine Below.setCell ?_ (by first | omega | (simp; done) | (simp; omega)) _ | refine Below.trans ?_ (Below.mono (by assumption) (by first | omega | (simp; done) | (simp; omega)))))) (HM.out _ (by repeat (first | exact Below.refl _ _ | refine Below.drew ?_ | refine Below.alloc ?_ (by first | omega | (simp; done) | (simp; omega)) _ | refine Below.setCell ?_ (by first | omega | (simp; done) | (simp; omega)) _ | refine Below.trans ?_ (Below.mono (by assumption) (by first | omega | (simp; done) | (simp; omega))))))).mono ?_
      rintro e w1 ⟨rfl, hb1⟩
      go_wp2_with (fail)
      go_ret
      exact RetV.bool rfl (Below.trans (by repeat (first | exact Below.refl _ _ | refine Below.drew ?_ | refine Below.alloc ?_ (by first | omega | (simp; done) | (simp; omega)) _ | refine Below.setCell ?_ (by first | omega | (simp; done) | (simp; omega)) _ | refine Below.trans ?_ (Below.mono (by assumption) (by first | omega | (simp; done) | (simp; omega))))) (hb1.mono (by simp; omega)))
  · have d1 : decide ((500 : Int) < (a.s.length : Int)) = false := by simp; omega
    have d2 : decide ((500 : Int) < (b.s.length : Int)) = false := by simp; omega
    have la : a.s.length ≤ 500 := by omega
    have lb : b.s.length ≤ 500 := by omega
    clear h
    unfold Val.val
    go_enter Tryd.func3, Tryd.ntmps3
    go_wp2_with (fail)
    refine wp_region_grow (by kernel_rfl) (by kernel_rfl) ?_
    repeat (quiet_step ((first | (go_at_call 14; exact quiet_grow (c_value_Check a _ (by omega))) | (go_at_call 15; exact quiet_grow (c_ref04_Check a _ (by omega))) | (go_at_call 16; exact quiet_grow (c_value_Compare a b _)) | (go_at_call 17; exact quiet_grow (c_ref04_Compare a b _ (by omega) (by omega))) | (go_at_call 18; exact quiet_grow (c_value_Less a b _)) | (go_at_call 19; exact quiet_grow (c_ref04_Less a b _ (by omega) (by omega))) | (go_at_call 20; exact quiet_grow (c_value_Fold a.s _ (by omega))) | (go_at_call 21; exact quiet_grow (c_ref04_Fold a.s _ (by omega))) | (go_at_call 22; exact quiet_grow (c_value_Holds a b _ (HM.out _ (Below.trans (by repeat (first | exact Below.refl _ _ | refine Below.drew ?_ | refine Below.alloc ?_ (by first | omega | (simp; done) | (simp; omega)) _ | refine Below.setCell ?_ (by first | omega | (simp; done) | (simp; omega)) _ | refine Below.trans ?_ (Below.mono (by assumption) (by first | omega | (simp; done) | (simp; omega))))) ((grow_below _ _).mono (by simp; omega)))) (by omega) (by omega))) | (go_at_call 23; exact quiet_grow (c_ref04_Holds a b _ (by omega) (by omega))) | (go_at_call 13; exact quiet_grow (c_law04_awake _ (HP.out _ (Below.trans (by repeat (first | exact Below.refl _ _ | refine Below.drew ?_ | refine Below.alloc ?_ (by first | omega | (simp; done) | (simp; omega)) _ | refine Below.setCell ?_ (by first | omega | (simp; done) | (simp; omega)) _ | refine Below.trans ?_ (Below.mono (by assumption) (by first | omega | (simp; done) | (simp; omega))))) ((grow_below _ _).mono (by simp; omega)))) (HM.out _ (Below.trans (by repeat (first | exact Below.refl _ _ | refine Below.drew ?_ | refine Below.alloc ?_ (by first | omega | (simp; done) | (simp; omega)) _ | refine Below.setCell ?_ (by first | omega | (simp; done) | (simp; omega)) _ | refine Below.trans ?_ (Below.mono (by assumption) (by first | omega | (simp; done) | (simp; omega))))) ((grow_below _ _).mono (by simp; omega)))))))))
    refine wpQuiet_nil ?_
    intro w2 hb2
    go_wp2_with (fail)
    go_ret
    exact RetV.bool rfl (Below.trans (by repeat (first | exact Below.refl _ _ | refine Below.drew ?_ | refine Below.alloc ?_ (by first | omega | (simp; done) | (simp; omega)) _ | refine Below.setCell ?_ (by first | omega | (simp; done) | (simp; omega)) _ | refine Below.trans ?_ (Below.mono (by assumption) (by first | omega | (simp; done) | (simp; omega))))) (hb2.mono (by simp; omega)))
end Go.Proofs.YtkofjkadmknmjaaDoor
