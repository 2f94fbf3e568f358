/-
  Lemmas (walks and plain laws), in one text.
-/
import Derived.Test.YtkofjkadmknmjaaDoorVc9
import Derived.Test.YtkofjkadmknmjaaDoorRows
import Derived.WalkKit
import Derived.WalkSpells
import Derived.WalkLawsBesides
import Derived.Lib.Hide
import Derived.Deep.QuietTactic
import Derived.BigQuiet
import Derived.Maps.AppendAt
import Derived.WalkSmall
import Derived.ProofKit
import Derived.OpenShut
import Derived.JoinedCond
import Derived.Deep.Slices
import Derived.Deep.Fields
import Derived.Carry
import Derived.Shelf.Small.Wraps
import Derived.Shelf.Utf8.RuneCount
import Derived.Shelf.Strconv.Itoa0
import Derived.Shelf.Strconv.Itoa1
import Derived.Shelf.LaysM
import Derived.Shelf.Strconv.Itoa2
import Derived.Shelf.Strconv.Itoa3
import Derived.Shelf.Strings.Search1
import Derived.Shelf.Strings.Search2
import Derived.Shelf.Strings.Search3
import Derived.Shelf.Strings.Count
import Derived.Shelf.Strings.Shaped
import Derived.Shelf.Strings.Prefix
import Derived.Shelf.Strings.Split
import Derived.Shelf.Strings.SplitShaped
import Derived.Shelf.Unicode.DecodeSlow
import Derived.Test.YtkofjkadmknmjaaDoorProg
import Derived.Deep.AppendSrc
import Derived.Lib.AppendStr
import Derived.Laws.BytesArg
import Derived.Lib.AppendIntMem
import Derived.Lib.ItoaLen
import Derived.Test.YtkofjkadmknmjaaDoorTie
import Derived.Lib.LaidTab
import Derived.LaidMore
import Derived.Stop.LaidErr
import Derived.SevenTiedAt
import Derived.HandedShaped
import Derived.Test.YtkofjkadmknmjaaDoorCards
import Derived.Deep.CutBlock
import Derived.Deep.DeepCutAuto
import Derived.Laws.IdiomStrings
import Derived.Outline
import Derived.IntWalk
import Derived.StillTail
import Derived.Laws.Tables
import Derived.Laws.Rows
import Derived.ChangeKeysEq
import Derived.Laws.StructEq
import Derived.Lib.AppendZeros
import Derived.Deep.Quiet
import Derived.OwnWalk
import Derived.Lib.TrailingZeros
import Derived.Lib.SplitLaws
import Derived.Lib.ItoaNum
import Derived.Shelf.Strings.PiecesUse
namespace Go.Proofs.YtkofjkadmknmjaaDoor
open Go.RowKit

set_option maxHeartbeats 1000000 in
theorem c_value_Show (x : Val) (w : World) (hs : x.s.length ≤ 9223372036854775807) (hP : PowTab w) : Calls Tryd.prog 28 #[.agg x.c3] w (RetV w (.string (str (showV x)))) := by
  have B0 := Lib.hid (At.new w 23 x.c3)
  have q0 := B0.out.2.cell (show x.c3[0]? = _ from rfl)
  have q1 := B0.out.2.cell (show x.c3[1]? = _ from rfl)
  have q2 := B0.out.2.cell (show x.c3[2]? = _ from rfl)
  have CC := Lib.hid (fun w' => show Calls Tryd.prog 14 #[.agg x.c3] w' (RetV w' (.bool x.ok)) from c_value_Check x w' hs)
  have HP := Lib.hid hP
  clear hP
  cases hok : x.ok
  case false =>
    rw [hok] at CC
    rw [showV_bad hok]
    clear hok
    go_enter Tryd.func28, Tryd.ntmps28
    go_wp2_with (fail)
    refine (CC.out _).mono ?_
    rintro e w1 ⟨rfl, hb1⟩
    go_wp2_with (fail)
    go_ret
    exact RetV.of rfl (B0.out.1.trans (hb1.mono B0.out.1.size))
  case true =>
    rw [hok] at CC
    have hcs : x.kind = 1 ∨ (x.kind ≠ 1 ∧ x.kind = 2) ∨ (x.kind ≠ 1 ∧ x.kind ≠ 2) := by omega
    rcases hcs with g1 | ⟨g1, g2⟩ | ⟨g1, g2⟩
    · obtain ⟨b0, b1⟩ := Val.num_bd hok g1
      obtain ⟨m, hm⟩ : ∃ m : Nat, x.n = m := ⟨x.n.toNat, by omega⟩
      have E := Lib.hid (show showV x = tens m by rw [showV_num hok g1, hm]; rfl)
      have CT := Lib.hid (fun w' (hb : Below w.heap.size w w') => show Calls Tryd.prog 35 #[.int .i64 x.n] w' (RetV w' (.string (str (tens m)))) by rw [hm, ← itoa_nat]; exact c_bits_Tens m w' (by omega) (by omega) (HP.out.below hb))
      have j1 : (x.kind == 1) = true := by simpa using g1
      clear hok g1 hm b0 b1
      rw [E.out]
      go_enter Tryd.func28, Tryd.ntmps28
      go_wp2_with (fail)
      refine (CC.out _).mono ?_
      rintro e w1 ⟨rfl, hb1⟩
      replace B0 := Lib.hid (B0.out.step hb1)
      clear q0 q1 q2 hb1
      have q0 := B0.out.2.cell (show x.c3[0]? = _ from rfl)
      have q1 := B0.out.2.cell (show x.c3[1]? = _ from rfl)
      have q2 := B0.out.2.cell (show x.c3[2]? = _ from rfl)
      go_wp2_with (fail)
      refine (CT.out _ B0.out.1).mono ?_
      rintro e w2 ⟨rfl, hb2⟩
      go_wp2_with (fail)
      go_ret
      exact RetV.of rfl (B0.out.1.trans (hb2.mono B0.out.1.size))
    · have E := Lib.hid (showV_text hok g2)
      have hl := Val.text_bd hok g2
      have CQ := Lib.hid (fun w' => c_value_Quote x.s w' (by omega))
      have j1 : (x.kind == 1) = false := by simpa using g1
      have j2 : (x.kind == 2) = true := by simpa using g2
      clear hok g1 g2
      rw [E.out]
      go_enter Tryd.func28, Tryd.ntmps28
      go_wp2_with (fail)
      refine (CC.out _).mono ?_
      rintro e w1 ⟨rfl, hb1⟩
      replace B0 := Lib.hid (B0.out.step hb1)
      clear q0 q1 q2 hb1
      have q0 := B0.out.2.cell (show x.c3[0]? = _ from rfl)
      have q1 := B0.out.2.cell (show x.c3[1]? = _ from rfl)
      have q2 := B0.out.2.cell (show x.c3[2]? = _ from rfl)
      go_wp2_with (fail)
      refine (CQ.out _).mono ?_
      rintro e w2 ⟨rfl, hb2⟩
      go_wp2_with (fail)
      go_ret
      exact RetV.of rfl (B0.out.1.trans (hb2.mono B0.out.1.size))
    · have E := Lib.hid (showV_none hok g1 g2)
      have j1 : (x.kind == 1) = false := by simpa using g1
      have j2 : (x.kind == 2) = false := by simpa using g2
      clear hok g1 g2
      rw [E.out]
      go_enter Tryd.func28, Tryd.ntmps28
      go_wp2_with (fail)
      refine (CC.out _).mono ?_
      rintro e w1 ⟨rfl, hb1⟩
      replace B0 := Lib.hid (B0.out.step hb1)
      clear q0 q1 q2 hb1
      have q0 := B0.out.2.cell (show x.c3[0]? = _ from rfl)
      go_wp2_with (fail)
      go_ret
      exact RetV.of rfl B0.out.1
/-- Does a text stand in another one? -/
def Val.holds (v p : Val) : Bool := decide (v.kind = 2) && decide (p.kind = 2) && Lib.contains (fold v.s) (fold p.s)
theorem Val.holds_no {v p : Val} (h : ¬ (v.kind = 2 ∧ p.kind = 2)) : v.holds p = false := by
  unfold Val.holds
  rw [Bool.and_eq_false_iff]
  left
  rw [Bool.and_eq_false_iff, decide_eq_false_iff_not, decide_eq_false_iff_not]
  omega
theorem Val.holds_yes {v p : Val} (h1 : v.kind = 2) (h2 : p.kind = 2) : v.holds p = Lib.contains (fold v.s) (fold p.s) := by
  unfold Val.holds
  rw [decide_eq_true h1, decide_eq_true h2]; rfl
set_option maxHeartbeats 1000000 in
theorem c_value_Holds (x y : Val) (w : World) (hM : MaxV w) (hx : x.s.length ≤ 1000000) (hy : y.s.length ≤ 1000000) : Calls Tryd.prog 22 #[x.val, y.val] w (RetV w (.bool (x.holds y))) := by
  have HM := Lib.hid (fun w' (hb : Below w.heap.size w w') => hM.below hb)
  have hfx := fold_len x.s
  unfold Val.val
  by_cases h1 : x.kind = 2
  · have j1 : (x.kind == 2) = true := by simpa using h1
    by_cases h2 : y.kind = 2
    · have j2 : (y.kind == 2) = true := by simpa using h2
      have H := Lib.hid (Val.holds_yes h1 h2)
      clear h1 h2
      go_enter Tryd.func22, Tryd.ntmps22
      go_wp2_with (fail)
      refine wp_region_grow (by kernel_rfl) (by kernel_rfl) ?_
      repeat (quiet_step ((first | (go_at_call 20; exact quiet_grow (c_value_Fold _ _ (by omega))) | (go_at_call 73; exact quiet_grow (c_Contains _ _ _ (HM.out _ (Below.trans (by repeat (first | exact Below.refl _ _ | refine Below.drew ?_ | refine Below.alloc ?_ (by first | omega | (simp; done) | (simp; omega)) _ | refine Below.setCell ?_ (by first | omega | (simp; done) | (simp; omega)) _ | refine Below.trans ?_ (Below.mono (by assumption) (by first | omega | (simp; done) | (simp; omega))))) ((grow_below _ _).mono (by simp; omega)))) (by omega))))))
      refine wpQuiet_nil ?_
      intro w2 hb2
      go_wp2_with (fail)
      go_ret
      exact RetV.bool H.out.symm (Below.trans (by repeat (first | exact Below.refl _ _ | refine Below.drew ?_ | refine Below.alloc ?_ (by first | omega | (simp; done) | (simp; omega)) _ | refine Below.setCell ?_ (by first | omega | (simp; done) | (simp; omega)) _ | refine Below.trans ?_ (Below.mono (by assumption) (by first | omega | (simp; done) | (simp; omega))))) (hb2.mono (by simp; omega)))
    · have j2 : (y.kind == 2) = false := by simpa using h2
      rw [Val.holds_no (fun h => h2 h.2)]
      clear h1 h2
      go_enter Tryd.func22, Tryd.ntmps22
      go_wp2_with (fail)
      refine wp_region_grow (by kernel_rfl) (by kernel_rfl) ?_
      repeat (quiet_step ((first | (fail))))
      refine wpQuiet_nil ?_
      intro w2 hb2
      go_wp2_with (fail)
      go_ret
      exact RetV.bool rfl (Below.trans (by repeat (first | exact Below.refl _ _ | refine Below.drew ?_ | refine Below.alloc ?_ (by first | omega | (simp; done) | (simp; omega)) _ | refine Below.setCell ?_ (by first | omega | (simp; done) | (simp; omega)) _ | refine Below.trans ?_ (Below.mono (by assumption) (by first | omega | (simp; done) | (simp; omega))))) (hb2.mono (by simp; omega)))
  · have j1 : (x.kind == 2) = false := by simpa using h1
    rw [Val.holds_no (fun h => h1 h.1)]
    clear h1
    go_enter Tryd.func22, Tryd.ntmps22
    go_wp2_with (fail)
    refine wp_region_grow (by kernel_rfl) (by kernel_rfl) ?_
    repeat (quiet_step ((first | (fail))))
    refine wpQuiet_nil ?_
    intro w2 hb2
    go_wp2_with (fail)
    go_ret
    exact RetV.bool rfl (Below.trans (by repeat (first | exact Below.refl _ _ | refine Below.drew ?_ | refine Below.alloc ?_ (by first | omega | (simp; done) | (simp; omega)) _ | refine Below.setCell ?_ (by first | omega | (simp; done) | (simp; omega)) _ | refine Below.trans ?_ (Below.mono (by assumption) (by first | omega | (simp; done) | (simp; omega))))) (hb2.mono (by simp; omega)))
end Go.Proofs.YtkofjkadmknmjaaDoor
namespace Go.Proofs.YtkofjkadmknmjaaDoor
open Go.RowKit

section
variable {P : Program} {w : World}
end
theorem gV : Tryd.prog.eqGuardType Tryd.prog.depth 23 = false := by kernel_rfl
end Go.Proofs.YtkofjkadmknmjaaDoor
namespace Go.Proofs.YtkofjkadmknmjaaDoor
open Go.RowKit

theorem quote_ex : quote [97, 34, 98] = [34, 97, 92, 34, 98, 34] := by decide
theorem holds_ex : (⟨2, 0, [65, 98, 99]⟩ : Val).holds ⟨2, 0, [66, 67]⟩ = true := by decide +kernel
set_option maxHeartbeats 1000000 in
theorem c_law04_awake (w : World) (hP : PowTab w) (hM : MaxV w) : Calls Tryd.prog 13 #[] w (RetV w (.bool true)) := by
  have C1 := Lib.hid (show ∀ w', Below w.heap.size w w' → Calls Tryd.prog 28 #[.agg (⟨2, 0, [97, 34, 98]⟩ : Val).c3] w' (RetV w' (.string (str [34, 97, 92, 34, 98, 34]))) from fun w' hb => by
    have := c_value_Show ⟨2, 0, [97, 34, 98]⟩ w' (by simp) (hP.below hb)
    rw [showV_text (by decide) rfl, quote_ex] at this
    exact this)
  have C2 := Lib.hid (show ∀ w', Below w.heap.size w w' → Calls Tryd.prog 22 #[(⟨2, 0, [65, 98, 99]⟩ : Val).val, (⟨2, 0, [66, 67]⟩ : Val).val] w' (RetV w' (.bool true)) from fun w' hb => by
    have := c_value_Holds ⟨2, 0, [65, 98, 99]⟩ ⟨2, 0, [66, 67]⟩ w' (hM.below hb) (by simp) (by simp)
    rw [holds_ex] at this
    exact this)
  clear hP hM
  go_enter Tryd.func13, Tryd.ntmps13
  go_wp2_with (fail)
  refine (C1.out _ (Below.refl _ _)).mono ?_
  rintro e w1 ⟨rfl, hb1⟩
  go_wp2_with (fail)
  refine (C2.out _ hb1).mono ?_
  rintro e w2 ⟨rfl, hb2⟩
  go_wp2_with (fail)
  go_ret
  exact RetV.bool rfl (hb1.trans (hb2.mono hb1.size))
end Go.Proofs.YtkofjkadmknmjaaDoor
namespace Go.Proofs.YtkofjkadmknmjaaDoor
open Go.RowKit

/-! A value that may be is read of its text. -/
theorem Val.ok_shape {v : Val} (h : v.ok = true) : (v = vz) ∨ (∃ n : Nat, n ≤ 1099511627776 ∧ v = ⟨1, n, []⟩) ∨ (∃ s : List UInt8, s.length ≤ 24 ∧ v = ⟨2, 0, s⟩) := by
  obtain ⟨k, n, s⟩ := v
  rcases Val.ok_kind h with hk | hk | hk
  · left
    unfold Val.ok at h
    simp only at hk
    subst hk
    simp at h
    obtain ⟨rfl, rfl⟩ := h
    rfl
  · right; left
    obtain ⟨h1, h2⟩ := Val.num_bd h hk
    unfold Val.ok at h
    simp only at hk
    subst hk
    simp at h
    simp only at h1 h2
    exact ⟨n.toNat, by omega, by rw [h.2]; congr 1; omega⟩
  · right; right
    have h1 := Val.text_bd h hk
    unfold Val.ok at h
    simp only at hk
    subst hk
    simp at h
    exact ⟨s, h1, by rw [h.1]⟩
theorem intR_quote (s : List UInt8) (most : Int) : intR (quote s) most = none := by
  unfold intR
  split
  · rfl
  · have : intF 0 (quote s) = none := by unfold quote; rw [intF, if_neg (by decide)]
    rw [this]
theorem valR_show {v : Val} (h : v.ok = true) : valR (showV v) = some v := by
  rcases Val.ok_shape h with rfl | ⟨n, hn, rfl⟩ | ⟨s, hs, rfl⟩
  · decide
  · rw [showV_num h rfl]
    show valR (tens ((n : Int).toNat)) = _
    rw [Int.toNat_natCast]
    have h1 : tens n ≠ [45] := by
      intro e
      have := tens_digits n 45 (by rw [e]; simp)
      simp at this
    unfold valR
    rw [if_neg h1, intR_tens hn (by omega)]
  · rw [showV_text h rfl]
    show valR (quote s) = _
    have h1 : quote s ≠ [45] := by
      intro e
      unfold quote at e
      injection e with e
      simp at e
    unfold valR
    rw [if_neg h1, intR_quote, unquote_quote]
    simp only
    rw [if_pos hs]
theorem showV_inj {a b : Val} (ha : a.ok = true) (hb : b.ok = true) : (showV a == showV b) = decide (a = b) := by
  rw [Bool.eq_iff_iff, beq_iff_eq, decide_eq_true_eq]
  constructor
  · intro e
    have h1 := valR_show ha
    rw [e, valR_show hb] at h1
    injection h1 with h1
    exact h1.symm
  · intro e; rw [e]
theorem showV_len {a : Val} (h : a.ok = true) : (showV a).length ≤ 200 := by
  rcases Val.ok_shape h with rfl | ⟨n, hn, rfl⟩ | ⟨s, hs, rfl⟩
  · decide
  · rw [showV_num h rfl]
    have := tens_len ((n : Int).toNat) 13 (by simp; omega) (by omega)
    show (tens ((n : Int).toNat)).length ≤ 200
    omega
  · rw [showV_text h rfl]
    show (quote s).length ≤ 200
    have hq : ∀ l : List UInt8, (l.flatMap quC).length ≤ 4 * l.length := by
      intro l
      induction l with
      | nil => simp
      | cons c l ih =>
        have : (quC c).length ≤ 4 := by
          unfold quC
          split
          · simp
          · split <;> simp
        rw [List.flatMap_cons, List.length_append, List.length_cons]; omega
    have := hq s
    unfold quote
    rw [List.length_cons, List.length_append]
    simp only [List.length_cons, List.length_nil]
    omega
set_option maxHeartbeats 4000000 in
set_option maxRecDepth 4000 in
theorem c_law04_ValueBack (a b : Val) (w : World) (hsa : a.s.length ≤ 9223372036854775807) (hsb : b.s.length ≤ 9223372036854775807) (hP : PowTab w) (hM : MaxV w) :
    Calls Tryd.prog 6 #[.agg a.c3, .agg b.c3] w (RetV w (.bool true)) := by
  have HP := Lib.hid (fun w' (hb : Below w.heap.size w w') => hP.below hb)
  have HM := Lib.hid (fun w' (hb : Below w.heap.size w w') => hM.below hb)
  clear hP hM
  have CA := Lib.hid (fun w' => show Calls Tryd.prog 15 #[.agg a.c3] w' (RetV w' (.bool a.ok)) from c_ref04_Check a w' hsa)
  have CB := Lib.hid (fun w' => show Calls Tryd.prog 15 #[.agg b.c3] w' (RetV w' (.bool b.ok)) from c_ref04_Check b w' hsb)
  have B := Lib.hid (At2.new w 23 23 a.c3 b.c3)
  cases hok : (a.ok && b.ok)
  · cases ha : a.ok
    · rw [ha] at CA
      clear hok ha
      go_enter Tryd.func6, Tryd.ntmps6
      have a0 := B.out.2.1.cell (show a.c3[0]? = some (.int .i64 a.kind) from rfl)
      have a1 := B.out.2.1.cell (show a.c3[1]? = some (.int .i64 a.n) from rfl)
      have a2 := B.out.2.1.cell (show a.c3[2]? = some (.string (str a.s)) from rfl)
      have b0 := B.out.2.2.cell (show b.c3[0]? = some (.int .i64 b.kind) from rfl)
      have b1 := B.out.2.2.cell (show b.c3[1]? = some (.int .i64 b.n) from rfl)
      have b2 := B.out.2.2.cell (show b.c3[2]? = some (.string (str b.s)) from rfl)
      go_wp2_with (fail)
      refine (CA.out _).mono ?_
      rintro e w1 ⟨rfl, hb1⟩
      replace B := Lib.hid (B.out.step hb1)
      clear a0 a1 a2 b0 b1 b2 hb1
      have a0 := B.out.2.1.cell (show a.c3[0]? = some (.int .i64 a.kind) from rfl)
      have a1 := B.out.2.1.cell (show a.c3[1]? = some (.int .i64 a.n) from rfl)
      have a2 := B.out.2.1.cell (show a.c3[2]? = some (.string (str a.s)) from rfl)
      have b0 := B.out.2.2.cell (show b.c3[0]? = some (.int .i64 b.kind) from rfl)
      have b1 := B.out.2.2.cell (show b.c3[1]? = some (.int .i64 b.n) from rfl)
      have b2 := B.out.2.2.cell (show b.c3[2]? = some (.string (str b.s)) from rfl)
      go_wp2_with (fail)
      refine (c_law04_awake _ (HP.out _ B.out.1) (HM.out _ B.out.1)).mono ?_
      rintro e w2 ⟨rfl, hb2⟩
      go_wp2_with (fail)
      go_ret
      exact RetV.bool rfl (B.out.1.trans (hb2.mono B.out.1.size))
    · have hb : b.ok = false := by rw [ha] at hok; simpa using hok
      rw [ha] at CA
      rw [hb] at CB
      clear hok ha hb
      go_enter Tryd.func6, Tryd.ntmps6
      have a0 := B.out.2.1.cell (show a.c3[0]? = some (.int .i64 a.kind) from rfl)
      have a1 := B.out.2.1.cell (show a.c3[1]? = some (.int .i64 a.n) from rfl)
      have a2 := B.out.2.1.cell (show a.c3[2]? = some (.string (str a.s)) from rfl)
      have b0 := B.out.2.2.cell (show b.c3[0]? = some (.int .i64 b.kind) from rfl)
      have b1 := B.out.2.2.cell (show b.c3[1]? = some (.int .i64 b.n) from rfl)
      have b2 := B.out.2.2.cell (show b.c3[2]? = some (.string (str b.s)) from rfl)
      go_wp2_with (fail)
      refine (CA.out _).mono ?_
      rintro e w1 ⟨rfl, hb1⟩
      replace B := Lib.hid (B.out.step hb1)
      clear a0 a1 a2 b0 b1 b2 hb1
      have a0 := B.out.2.1.cell (show a.c3[0]? = some (.int .i64 a.kind) from rfl)
      have a1 := B.out.2.1.cell (show a.c3[1]? = some (.int .i64 a.n) from rfl)
      have a2 := B.out.2.1.cell (show a.c3[2]? = some (.string (str a.s)) from rfl)
      have b0 := B.out.2.2.cell (show b.c3[0]? = some (.int .i64 b.kind) from rfl)
      have b1 := B.out.2.2.cell (show b.c3[1]? = some (.int .i64 b.n) from rfl)
      have b2 := B.out.2.2.cell (show b.c3[2]? = some (.string (str b.s)) from rfl)
      go_wp2_with (fail)
      refine (CB.out _).mono ?_
      rintro e w2 ⟨rfl, hb2⟩
      replace B := Lib.hid (B.out.step hb2)
      clear a0 a1 a2 b0 b1 b2 hb2
      have a0 := B.out.2.1.cell (show a.c3[0]? = some (.int .i64 a.kind) from rfl)
      have a1 := B.out.2.1.cell (show a.c3[1]? = some (.int .i64 a.n) from rfl)
      have a2 := B.out.2.1.cell (show a.c3[2]? = some (.string (str a.s)) from rfl)
      have b0 := B.out.2.2.cell (show b.c3[0]? = some (.int .i64 b.kind) from rfl)
      have b1 := B.out.2.2.cell (show b.c3[1]? = some (.int .i64 b.n) from rfl)
      have b2 := B.out.2.2.cell (show b.c3[2]? = some (.string (str b.s)) from rfl)
      go_wp2_with (fail)
      refine (c_law04_awake _ (HP.out _ B.out.1) (HM.out _ B.out.1)).mono ?_
      rintro e w3 ⟨rfl, hb3⟩
      go_wp2_with (fail)
      go_ret
      exact RetV.bool rfl (B.out.1.trans (hb3.mono B.out.1.size))
  · rw [Bool.and_eq_true] at hok
    obtain ⟨ha, hb⟩ := hok
    have ks0 := showV_inj ha hb
    have hl := showV_len ha
    have VR := valR_show ha
    have CR := Lib.hid (fun w' => show Calls Tryd.prog 24 #[.string (str (showV a))] w' (RetV w' (.tuple #[.agg a.c3, .bool true])) by have := c_value_Read (showV a) w' (by omega); rw [valT_some VR] at this; exact this)
    rw [ha] at CA
    rw [hb] at CB
    have ks := ks0
    clear ha hb ks0 VR hl
    have gv := gV
    have he := fun w' => show (Op.equalIn 10000 23 (.agg #[.int .i64 a.kind, .int .i64 a.n, .string (str a.s)]) (.agg #[.int .i64 b.kind, .int .i64 b.n, .string (str b.s)])).run Tryd.prog w' = .ok (decide (a = b)) w' from eq_val 9998 a b w'
    have he2 := fun w' => show (Op.equalIn 10000 23 (.agg #[.int .i64 a.kind, .int .i64 a.n, .string (str a.s)]) (.agg #[.int .i64 a.kind, .int .i64 a.n, .string (str a.s)])).run Tryd.prog w' = .ok true w' from by have := eq_val 9998 a a w'; rw [decide_eq_true rfl] at this; exact this
    go_enter Tryd.func6, Tryd.ntmps6
    have a0 := B.out.2.1.cell (show a.c3[0]? = some (.int .i64 a.kind) from rfl)
    have a1 := B.out.2.1.cell (show a.c3[1]? = some (.int .i64 a.n) from rfl)
    have a2 := B.out.2.1.cell (show a.c3[2]? = some (.string (str a.s)) from rfl)
    have b0 := B.out.2.2.cell (show b.c3[0]? = some (.int .i64 b.kind) from rfl)
    have b1 := B.out.2.2.cell (show b.c3[1]? = some (.int .i64 b.n) from rfl)
    have b2 := B.out.2.2.cell (show b.c3[2]? = some (.string (str b.s)) from rfl)
    go_wp2_with (fail)
    refine (CA.out _).mono ?_
    rintro e w1 ⟨rfl, hb1⟩
    replace B := Lib.hid (B.out.step hb1)
    clear a0 a1 a2 b0 b1 b2 hb1
    have a0 := B.out.2.1.cell (show a.c3[0]? = some (.int .i64 a.kind) from rfl)
    have a1 := B.out.2.1.cell (show a.c3[1]? = some (.int .i64 a.n) from rfl)
    have a2 := B.out.2.1.cell (show a.c3[2]? = some (.string (str a.s)) from rfl)
    have b0 := B.out.2.2.cell (show b.c3[0]? = some (.int .i64 b.kind) from rfl)
    have b1 := B.out.2.2.cell (show b.c3[1]? = some (.int .i64 b.n) from rfl)
    have b2 := B.out.2.2.cell (show b.c3[2]? = some (.string (str b.s)) from rfl)
    go_wp2_with (fail)
    refine (CB.out _).mono ?_
    rintro e w2 ⟨rfl, hb2⟩
    replace B := Lib.hid (B.out.step hb2)
    clear a0 a1 a2 b0 b1 b2 hb2
    have a0 := B.out.2.1.cell (show a.c3[0]? = some (.int .i64 a.kind) from rfl)
    have a1 := B.out.2.1.cell (show a.c3[1]? = some (.int .i64 a.n) from rfl)
    have a2 := B.out.2.1.cell (show a.c3[2]? = some (.string (str a.s)) from rfl)
    have b0 := B.out.2.2.cell (show b.c3[0]? = some (.int .i64 b.kind) from rfl)
    have b1 := B.out.2.2.cell (show b.c3[1]? = some (.int .i64 b.n) from rfl)
    have b2 := B.out.2.2.cell (show b.c3[2]? = some (.string (str b.s)) from rfl)
    go_wp2_with (fail)
    refine (c_value_Show a _ hsa (HP.out _ B.out.1)).mono ?_
    rintro e w3 ⟨rfl, hb3⟩
    replace B := Lib.hid (B.out.step hb3)
    clear a0 a1 a2 b0 b1 b2 hb3
    have a0 := B.out.2.1.cell (show a.c3[0]? = some (.int .i64 a.kind) from rfl)
    have a1 := B.out.2.1.cell (show a.c3[1]? = some (.int .i64 a.n) from rfl)
    have a2 := B.out.2.1.cell (show a.c3[2]? = some (.string (str a.s)) from rfl)
    have b0 := B.out.2.2.cell (show b.c3[0]? = some (.int .i64 b.kind) from rfl)
    have b1 := B.out.2.2.cell (show b.c3[1]? = some (.int .i64 b.n) from rfl)
    have b2 := B.out.2.2.cell (show b.c3[2]? = some (.string (str b.s)) from rfl)
    go_wp2_with (fail)
    refine (CR.out _).mono ?_
    rintro e w4 ⟨rfl, hb4⟩
    replace B := Lib.hid (B.out.step hb4)
    clear a0 a1 a2 b0 b1 b2 hb4
    have a0 := B.out.2.1.cell (show a.c3[0]? = some (.int .i64 a.kind) from rfl)
    have a1 := B.out.2.1.cell (show a.c3[1]? = some (.int .i64 a.n) from rfl)
    have a2 := B.out.2.1.cell (show a.c3[2]? = some (.string (str a.s)) from rfl)
    have b0 := B.out.2.2.cell (show b.c3[0]? = some (.int .i64 b.kind) from rfl)
    have b1 := B.out.2.2.cell (show b.c3[1]? = some (.int .i64 b.n) from rfl)
    have b2 := B.out.2.2.cell (show b.c3[2]? = some (.string (str b.s)) from rfl)
    go_wp2_with (fail)
    have BX := Blk.new w4 23 a.c3
    have B5 := Lib.hid (B.out.step ((Below.refl w4.heap.size w4).alloc (Nat.le_refl _) (.cells a.c3 23)))
    clear a0 a1 a2 b0 b1 b2 B
    have B := Lib.hid B5.out
    clear B5
    have x0 := BX.cell (show a.c3[0]? = some (.int .i64 a.kind) from rfl)
    have x1 := BX.cell (show a.c3[1]? = some (.int .i64 a.n) from rfl)
    have x2 := BX.cell (show a.c3[2]? = some (.string (str a.s)) from rfl)
    have u3 := BX.lt
    have a0 := B.out.2.1.cell (show a.c3[0]? = some (.int .i64 a.kind) from rfl)
    have a1 := B.out.2.1.cell (show a.c3[1]? = some (.int .i64 a.n) from rfl)
    have a2 := B.out.2.1.cell (show a.c3[2]? = some (.string (str a.s)) from rfl)
    have b0 := B.out.2.2.cell (show b.c3[0]? = some (.int .i64 b.kind) from rfl)
    have b1 := B.out.2.2.cell (show b.c3[1]? = some (.int .i64 b.n) from rfl)
    have b2 := B.out.2.2.cell (show b.c3[2]? = some (.string (str b.s)) from rfl)
    have u1 := B.out.2.1.lt
    have u2 := B.out.2.2.lt
    clear BX
    obtain ⟨W3, hW3⟩ : ∃ W3, w4.alloc (.cells a.c3 23) = W3 := ⟨_, rfl⟩
    rw [hW3] at B x0 x1 x2 u1 u2 u3 a0 a1 a2 b0 b1 b2 ⊢
    clear hW3
    refine wp_region_grow (by kernel_rfl) (by kernel_rfl) ?_
    repeat (quiet_step ((first | (go_at_call 28; exact quiet_grow (c_value_Show _ _ (by first | exact hsa | exact hsb) (HP.out _ (B.out.1.trans ((grow_below _ _).mono B.out.1.size))))) | (go_at_call 13; exact quiet_grow (c_law04_awake _ (HP.out _ (B.out.1.trans ((grow_below _ _).mono B.out.1.size))) (HM.out _ (B.out.1.trans ((grow_below _ _).mono B.out.1.size))))))))
    refine wpQuiet_nil ?_
    intro w5 hb5
    go_wp2_with (fail)
    go_ret
    exact RetV.bool rfl (B.out.1.trans (hb5.mono B.out.1.size))
end Go.Proofs.YtkofjkadmknmjaaDoor
