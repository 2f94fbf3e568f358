/-
  Lemmas (walks and plain laws), in one text.
-/
import Derived.Test.YtkofjkadmknmjaaDoorVd7
import Derived.Test.YtkofjkadmknmjaaDoorRows
import Derived.WalkKit
import Derived.WalkSpells
import Derived.WalkLawsBesides
import Derived.Lib.Hide
import Derived.Deep.QuietTactic
import Derived.BigQuiet
import Derived.Maps.AppendAt
import Derived.WalkSmall
import Derived.ProofKit
import Derived.OpenShut
import Derived.JoinedCond
import Derived.Deep.Slices
import Derived.Deep.Fields
import Derived.Carry
import Derived.Shelf.Small.Wraps
import Derived.Shelf.Utf8.RuneCount
import Derived.Shelf.Strconv.Itoa0
import Derived.Shelf.Strconv.Itoa1
import Derived.Shelf.LaysM
import Derived.Shelf.Strconv.Itoa2
import Derived.Shelf.Strconv.Itoa3
import Derived.Shelf.Strings.Search1
import Derived.Shelf.Strings.Search2
import Derived.Shelf.Strings.Search3
import Derived.Shelf.Strings.Count
import Derived.Shelf.Strings.Shaped
import Derived.Shelf.Strings.Prefix
import Derived.Shelf.Strings.Split
import Derived.Shelf.Strings.SplitShaped
import Derived.Shelf.Unicode.DecodeSlow
import Derived.Test.YtkofjkadmknmjaaDoorProg
import Derived.Deep.AppendSrc
import Derived.Lib.AppendStr
import Derived.Laws.BytesArg
import Derived.Lib.AppendIntMem
import Derived.Lib.ItoaLen
import Derived.Test.YtkofjkadmknmjaaDoorTie
import Derived.Lib.LaidTab
import Derived.LaidMore
import Derived.Stop.LaidErr
import Derived.SevenTiedAt
import Derived.HandedShaped
import Derived.Test.YtkofjkadmknmjaaDoorCards
import Derived.Deep.CutBlock
import Derived.Deep.DeepCutAuto
import Derived.Laws.IdiomStrings
import Derived.Outline
import Derived.IntWalk
import Derived.StillTail
import Derived.Laws.Tables
import Derived.Laws.Rows
import Derived.ChangeKeysEq
import Derived.Laws.StructEq
import Derived.Lib.AppendZeros
import Derived.Deep.Quiet
import Derived.OwnWalk
import Derived.Lib.TrailingZeros
import Derived.Lib.SplitLaws
import Derived.Lib.ItoaNum
import Derived.Shelf.Strings.PiecesUse
namespace Go.Proofs.YtkofjkadmknmjaaDoor
open Go.RowKit

theorem quote_ex : quote [97, 34, 98] = [34, 97, 92, 34, 98, 34] := by decide
theorem holds_ex : (⟨2, 0, [65, 98, 99]⟩ : Val).holds ⟨2, 0, [66, 67]⟩ = true := by decide +kernel
set_option maxHeartbeats 1000000 in
theorem c_law04_awake (w : World) (hP : PowTab w) (hM : MaxV w) : Calls Tryd.prog 13 #[] w (RetV w (.bool true)) := by
  have C1 := Lib.hid (show ∀ w', Below w.heap.size w w' → Calls Tryd.prog 28 #[.agg (⟨2, 0, [97, 34, 98]⟩ : Val).c3] w' (RetV w' (.string (str [34, 97, 92, 34, 98, 34]))) from fun w' hb => by
    have := c_value_Show ⟨2, 0, [97, 34, 98]⟩ w' (by simp) (hP.below hb)
    rw [showV_text (by decide) rfl, quote_ex] at this
    exact this)
  have C2 := Lib.hid (show ∀ w', Below w.heap.size w w' → Calls Tryd.prog 22 #[(⟨2, 0, [65, 98, 99]⟩ : Val).val, (⟨2, 0, [66, 67]⟩ : Val).val] w' (RetV w' (.bool true)) from fun w' hb => by
    have := c_value_Holds ⟨2, 0, [65, 98, 99]⟩ ⟨2, 0, [66, 67]⟩ w' (hM.below hb) (by simp) (by simp)
    rw [holds_ex] at this
    exact this)
  clear hP hM
  go_enter Tryd.func13, Tryd.ntmps13
  go_wp2_with (fail)
  refine (C1.out _ (Below.refl _ _)).mono ?_
  rintro e w1 ⟨rfl, hb1⟩
  go_wp2_with (fail)
  refine (C2.out _ hb1).mono ?_
  rintro e w2 ⟨rfl, hb2⟩
  go_wp2_with (fail)
  go_ret
  exact RetV.bool rfl (hb1.trans (hb2.mono hb1.size))
end Go.Proofs.YtkofjkadmknmjaaDoor
namespace Go.Proofs.YtkofjkadmknmjaaDoor
open Go.RowKit

def arr3 (a b c : Val) : Array Value := #[.int .i64 a.kind, .int .i64 a.n, .string (str a.s), .int .i64 b.kind, .int .i64 b.n, .string (str b.s), .int .i64 c.kind, .int .i64 c.n, .string (str c.s)]
set_option maxHeartbeats 4000000 in
set_option maxRecDepth 4000 in
theorem c_law04_ValueChain (a b c : Val) (w : World) (hla : a.s.length ≤ 140737488355328) (hlb : b.s.length ≤ 140737488355328) (_hlc : c.s.length ≤ 140737488355328) (hP : PowTab w) (hM : MaxV w) :
    Calls Tryd.prog 4 #[.agg (arr3 a b c)] w (RetV w (.bool true)) := by
  have HP := Lib.hid (fun w' (hb : Below w.heap.size w w') => hP.below hb)
  have HM := Lib.hid (fun w' (hb : Below w.heap.size w w') => hM.below hb)
  have B := Lib.hid (At.new w 29 (arr3 a b c))
  have CL := Lib.hid (fun (x y : Val) w' => show Calls Tryd.prog 18 #[.agg #[.int .i64 x.kind, .int .i64 x.n, .string (str x.s)], .agg #[.int .i64 y.kind, .int .i64 y.n, .string (str y.s)]] w' (RetV w' (.bool (x.less y))) from c_value_Less x y w')
  have CC := Lib.hid (fun (x y : Val) w' => show Calls Tryd.prog 16 #[.agg #[.int .i64 x.kind, .int .i64 x.n, .string (str x.s)], .agg #[.int .i64 y.kind, .int .i64 y.n, .string (str y.s)]] w' (RetV w' (.int .i64 (x.cmp y))) from c_value_Compare x y w')
  clear hP hM
  have q0 := B.out.2.cell (show (arr3 a b c)[0]? = some (.int .i64 a.kind) from rfl)
  have q1 := B.out.2.cell (show (arr3 a b c)[1]? = some (.int .i64 a.n) from rfl)
  have q2 := B.out.2.cell (show (arr3 a b c)[2]? = some (.string (str a.s)) from rfl)
  have q3 := B.out.2.cell (show (arr3 a b c)[3]? = some (.int .i64 b.kind) from rfl)
  have q4 := B.out.2.cell (show (arr3 a b c)[4]? = some (.int .i64 b.n) from rfl)
  have q5 := B.out.2.cell (show (arr3 a b c)[5]? = some (.string (str b.s)) from rfl)
  have q6 := B.out.2.cell (show (arr3 a b c)[6]? = some (.int .i64 c.kind) from rfl)
  have q7 := B.out.2.cell (show (arr3 a b c)[7]? = some (.int .i64 c.n) from rfl)
  have q8 := B.out.2.cell (show (arr3 a b c)[8]? = some (.string (str c.s)) from rfl)
  have hlt := B.out.2.lt
  obtain ⟨z, hz⟩ : ∃ z, z = a.cmp b := ⟨_, rfl⟩
  have hbd := Val.cmp_bd a b
  have HZ := Lib.hid hz
  have HN := Lib.hid (show b.cmp a = -z by rw [hz]; exact Val.cmp_neg a b)
  have kz : (z == 0) = decide (a = b) := by rw [hz, Bool.eq_iff_iff, beq_iff_eq, decide_eq_true_eq]; exact Val.cmp_zero a b
  have kz1 : decide (z = 0) = decide (a = b) := by rw [← kz, Bool.eq_iff_iff, beq_iff_eq, decide_eq_true_eq]
  rw [← hz] at hbd
  clear hz
  have gv := gV
  have he := fun w' => show (Op.equalIn 10000 23 (.agg #[.int .i64 a.kind, .int .i64 a.n, .string (str a.s)]) (.agg #[.int .i64 b.kind, .int .i64 b.n, .string (str b.s)])).run Tryd.prog w' = .ok (decide (a = b)) w' from eq_val 9998 a b w'
  have e1 := HZ.out.symm
  have e2 := HN.out
  clear CC HZ HN
  have hz1 := hbd.1
  have hz2 := hbd.2
  have laa := Val.less_self a
  have n2 : IntKind.i64.wrap z = z := by simp only [IntKind.wrap, IntKind.signed, IntKind.bits]; first | (simp; omega) | omega
  have n5 : (z == z) = true := by simp
  have n4 : (z == IntKind.i64.wrap z) = true := by rw [n2]; simp
  cases hab : a.less b
  · go_enter Tryd.func4, Tryd.ntmps4
    go_wp2_with (fail)
    all_goals first
      | (refine (c_law04_awake _ (HP.out _ B.out.1) (HM.out _ B.out.1)).mono ?_
         rintro e w1 ⟨rfl, hb1⟩
         go_wp2_with (fail)
         go_ret
         exact RetV.bool rfl (B.out.1.trans (hb1.mono B.out.1.size)))
      | skip
    refine wp_region_grow (by kernel_rfl) (by kernel_rfl) ?_
    repeat (quiet_step ((first | (go_at_call 18; exact quiet_grow (c_value_Less _ _ _)))))
    refine wpQuiet_nil ?_
    intro w2 hb2
    replace B := Lib.hid (B.out.step hb2)
    clear q0 q1 q2 q3 q4 q5 q6 q7 q8 hlt hb2
    have q0 := B.out.2.cell (show (arr3 a b c)[0]? = some (.int .i64 a.kind) from rfl)
    have q1 := B.out.2.cell (show (arr3 a b c)[1]? = some (.int .i64 a.n) from rfl)
    have q2 := B.out.2.cell (show (arr3 a b c)[2]? = some (.string (str a.s)) from rfl)
    have q3 := B.out.2.cell (show (arr3 a b c)[3]? = some (.int .i64 b.kind) from rfl)
    have q4 := B.out.2.cell (show (arr3 a b c)[4]? = some (.int .i64 b.n) from rfl)
    have q5 := B.out.2.cell (show (arr3 a b c)[5]? = some (.string (str b.s)) from rfl)
    have q6 := B.out.2.cell (show (arr3 a b c)[6]? = some (.int .i64 c.kind) from rfl)
    have q7 := B.out.2.cell (show (arr3 a b c)[7]? = some (.int .i64 c.n) from rfl)
    have q8 := B.out.2.cell (show (arr3 a b c)[8]? = some (.string (str c.s)) from rfl)
    have hlt := B.out.2.lt
    go_wp2_with (fail)
    refine (CL.out _ _ _).mono ?_
    rintro e w1 ⟨rfl, hb1⟩
    replace B := Lib.hid (B.out.step hb1)
    clear q0 q1 q2 q3 q4 q5 q6 q7 q8 hlt hb1
    have q0 := B.out.2.cell (show (arr3 a b c)[0]? = some (.int .i64 a.kind) from rfl)
    have q1 := B.out.2.cell (show (arr3 a b c)[1]? = some (.int .i64 a.n) from rfl)
    have q2 := B.out.2.cell (show (arr3 a b c)[2]? = some (.string (str a.s)) from rfl)
    have q3 := B.out.2.cell (show (arr3 a b c)[3]? = some (.int .i64 b.kind) from rfl)
    have q4 := B.out.2.cell (show (arr3 a b c)[4]? = some (.int .i64 b.n) from rfl)
    have q5 := B.out.2.cell (show (arr3 a b c)[5]? = some (.string (str b.s)) from rfl)
    have q6 := B.out.2.cell (show (arr3 a b c)[6]? = some (.int .i64 c.kind) from rfl)
    have q7 := B.out.2.cell (show (arr3 a b c)[7]? = some (.int .i64 c.n) from rfl)
    have q8 := B.out.2.cell (show (arr3 a b c)[8]? = some (.string (str c.s)) from rfl)
    have hlt := B.out.2.lt
    go_wp2_with (fail)
    refine wp_region_grow (by kernel_rfl) (by kernel_rfl) ?_
    repeat (quiet_step ((first | (go_at_call 16; exact quiet_grow (c_value_Compare _ _ _)) | (go_at_call 13; exact quiet_grow (c_law04_awake _ (HP.out _ (B.out.1.trans ((grow_below _ _).mono B.out.1.size))) (HM.out _ (B.out.1.trans ((grow_below _ _).mono B.out.1.size))))))))
    refine wpQuiet_nil ?_
    intro w3 hb3
    go_wp2_with (fail)
    go_ret
    exact RetV.bool rfl (B.out.1.trans (hb3.mono B.out.1.size))
  · have hba := Val.less_asym hab
    cases hbc : b.less c
    · go_enter Tryd.func4, Tryd.ntmps4
      go_wp2_with (fail)
      all_goals first
        | (refine (c_law04_awake _ (HP.out _ B.out.1) (HM.out _ B.out.1)).mono ?_
           rintro e w1 ⟨rfl, hb1⟩
           go_wp2_with (fail)
           go_ret
           exact RetV.bool rfl (B.out.1.trans (hb1.mono B.out.1.size)))
        | skip
      refine wp_region_grow (by kernel_rfl) (by kernel_rfl) ?_
      repeat (quiet_step ((first | (go_at_call 18; exact quiet_grow (c_value_Less _ _ _)))))
      refine wpQuiet_nil ?_
      intro w2 hb2
      replace B := Lib.hid (B.out.step hb2)
      clear q0 q1 q2 q3 q4 q5 q6 q7 q8 hlt hb2
      have q0 := B.out.2.cell (show (arr3 a b c)[0]? = some (.int .i64 a.kind) from rfl)
      have q1 := B.out.2.cell (show (arr3 a b c)[1]? = some (.int .i64 a.n) from rfl)
      have q2 := B.out.2.cell (show (arr3 a b c)[2]? = some (.string (str a.s)) from rfl)
      have q3 := B.out.2.cell (show (arr3 a b c)[3]? = some (.int .i64 b.kind) from rfl)
      have q4 := B.out.2.cell (show (arr3 a b c)[4]? = some (.int .i64 b.n) from rfl)
      have q5 := B.out.2.cell (show (arr3 a b c)[5]? = some (.string (str b.s)) from rfl)
      have q6 := B.out.2.cell (show (arr3 a b c)[6]? = some (.int .i64 c.kind) from rfl)
      have q7 := B.out.2.cell (show (arr3 a b c)[7]? = some (.int .i64 c.n) from rfl)
      have q8 := B.out.2.cell (show (arr3 a b c)[8]? = some (.string (str c.s)) from rfl)
      have hlt := B.out.2.lt
      go_wp2_with (fail)
      refine (CL.out _ _ _).mono ?_
      rintro e w1 ⟨rfl, hb1⟩
      replace B := Lib.hid (B.out.step hb1)
      clear q0 q1 q2 q3 q4 q5 q6 q7 q8 hlt hb1
      have q0 := B.out.2.cell (show (arr3 a b c)[0]? = some (.int .i64 a.kind) from rfl)
      have q1 := B.out.2.cell (show (arr3 a b c)[1]? = some (.int .i64 a.n) from rfl)
      have q2 := B.out.2.cell (show (arr3 a b c)[2]? = some (.string (str a.s)) from rfl)
      have q3 := B.out.2.cell (show (arr3 a b c)[3]? = some (.int .i64 b.kind) from rfl)
      have q4 := B.out.2.cell (show (arr3 a b c)[4]? = some (.int .i64 b.n) from rfl)
      have q5 := B.out.2.cell (show (arr3 a b c)[5]? = some (.string (str b.s)) from rfl)
      have q6 := B.out.2.cell (show (arr3 a b c)[6]? = some (.int .i64 c.kind) from rfl)
      have q7 := B.out.2.cell (show (arr3 a b c)[7]? = some (.int .i64 c.n) from rfl)
      have q8 := B.out.2.cell (show (arr3 a b c)[8]? = some (.string (str c.s)) from rfl)
      have hlt := B.out.2.lt
      go_wp2_with (fail)
      refine (CL.out _ _ _).mono ?_
      rintro e w1 ⟨rfl, hb1⟩
      replace B := Lib.hid (B.out.step hb1)
      clear q0 q1 q2 q3 q4 q5 q6 q7 q8 hlt hb1
      have q0 := B.out.2.cell (show (arr3 a b c)[0]? = some (.int .i64 a.kind) from rfl)
      have q1 := B.out.2.cell (show (arr3 a b c)[1]? = some (.int .i64 a.n) from rfl)
      have q2 := B.out.2.cell (show (arr3 a b c)[2]? = some (.string (str a.s)) from rfl)
      have q3 := B.out.2.cell (show (arr3 a b c)[3]? = some (.int .i64 b.kind) from rfl)
      have q4 := B.out.2.cell (show (arr3 a b c)[4]? = some (.int .i64 b.n) from rfl)
      have q5 := B.out.2.cell (show (arr3 a b c)[5]? = some (.string (str b.s)) from rfl)
      have q6 := B.out.2.cell (show (arr3 a b c)[6]? = some (.int .i64 c.kind) from rfl)
      have q7 := B.out.2.cell (show (arr3 a b c)[7]? = some (.int .i64 c.n) from rfl)
      have q8 := B.out.2.cell (show (arr3 a b c)[8]? = some (.string (str c.s)) from rfl)
      have hlt := B.out.2.lt
      go_wp2_with (fail)
      refine wp_region_grow (by kernel_rfl) (by kernel_rfl) ?_
      repeat (quiet_step ((first | (go_at_call 16; exact quiet_grow (c_value_Compare _ _ _)) | (go_at_call 13; exact quiet_grow (c_law04_awake _ (HP.out _ (B.out.1.trans ((grow_below _ _).mono B.out.1.size))) (HM.out _ (B.out.1.trans ((grow_below _ _).mono B.out.1.size))))))))
      refine wpQuiet_nil ?_
      intro w3 hb3
      go_wp2_with (fail)
      go_ret
      exact RetV.bool rfl (B.out.1.trans (hb3.mono B.out.1.size))
    · have hac := Val.less_trans hab hbc
      go_enter Tryd.func4, Tryd.ntmps4
      go_wp2_with (fail)
      all_goals first
        | (refine (c_law04_awake _ (HP.out _ B.out.1) (HM.out _ B.out.1)).mono ?_
           rintro e w1 ⟨rfl, hb1⟩
           go_wp2_with (fail)
           go_ret
           exact RetV.bool rfl (B.out.1.trans (hb1.mono B.out.1.size)))
        | skip
      refine wp_region_grow (by kernel_rfl) (by kernel_rfl) ?_
      repeat (quiet_step ((first | (go_at_call 18; exact quiet_grow (c_value_Less _ _ _)))))
      refine wpQuiet_nil ?_
      intro w2 hb2
      replace B := Lib.hid (B.out.step hb2)
      clear q0 q1 q2 q3 q4 q5 q6 q7 q8 hlt hb2
      have q0 := B.out.2.cell (show (arr3 a b c)[0]? = some (.int .i64 a.kind) from rfl)
      have q1 := B.out.2.cell (show (arr3 a b c)[1]? = some (.int .i64 a.n) from rfl)
      have q2 := B.out.2.cell (show (arr3 a b c)[2]? = some (.string (str a.s)) from rfl)
      have q3 := B.out.2.cell (show (arr3 a b c)[3]? = some (.int .i64 b.kind) from rfl)
      have q4 := B.out.2.cell (show (arr3 a b c)[4]? = some (.int .i64 b.n) from rfl)
      have q5 := B.out.2.cell (show (arr3 a b c)[5]? = some (.string (str b.s)) from rfl)
      have q6 := B.out.2.cell (show (arr3 a b c)[6]? = some (.int .i64 c.kind) from rfl)
      have q7 := B.out.2.cell (show (arr3 a b c)[7]? = some (.int .i64 c.n) from rfl)
      have q8 := B.out.2.cell (show (arr3 a b c)[8]? = some (.string (str c.s)) from rfl)
      have hlt := B.out.2.lt
      go_wp2_with (fail)
      refine (CL.out _ _ _).mono ?_
      rintro e w1 ⟨rfl, hb1⟩
      replace B := Lib.hid (B.out.step hb1)
      clear q0 q1 q2 q3 q4 q5 q6 q7 q8 hlt hb1
      have q0 := B.out.2.cell (show (arr3 a b c)[0]? = some (.int .i64 a.kind) from rfl)
      have q1 := B.out.2.cell (show (arr3 a b c)[1]? = some (.int .i64 a.n) from rfl)
      have q2 := B.out.2.cell (show (arr3 a b c)[2]? = some (.string (str a.s)) from rfl)
      have q3 := B.out.2.cell (show (arr3 a b c)[3]? = some (.int .i64 b.kind) from rfl)
      have q4 := B.out.2.cell (show (arr3 a b c)[4]? = some (.int .i64 b.n) from rfl)
      have q5 := B.out.2.cell (show (arr3 a b c)[5]? = some (.string (str b.s)) from rfl)
      have q6 := B.out.2.cell (show (arr3 a b c)[6]? = some (.int .i64 c.kind) from rfl)
      have q7 := B.out.2.cell (show (arr3 a b c)[7]? = some (.int .i64 c.n) from rfl)
      have q8 := B.out.2.cell (show (arr3 a b c)[8]? = some (.string (str c.s)) from rfl)
      have hlt := B.out.2.lt
      go_wp2_with (fail)
      refine (CL.out _ _ _).mono ?_
      rintro e w1 ⟨rfl, hb1⟩
      replace B := Lib.hid (B.out.step hb1)
      clear q0 q1 q2 q3 q4 q5 q6 q7 q8 hlt hb1
      have q0 := B.out.2.cell (show (arr3 a b c)[0]? = some (.int .i64 a.kind) from rfl)
      have q1 := B.out.2.cell (show (arr3 a b c)[1]? = some (.int .i64 a.n) from rfl)
      have q2 := B.out.2.cell (show (arr3 a b c)[2]? = some (.string (str a.s)) from rfl)
      have q3 := B.out.2.cell (show (arr3 a b c)[3]? = some (.int .i64 b.kind) from rfl)
      have q4 := B.out.2.cell (show (arr3 a b c)[4]? = some (.int .i64 b.n) from rfl)
      have q5 := B.out.2.cell (show (arr3 a b c)[5]? = some (.string (str b.s)) from rfl)
      have q6 := B.out.2.cell (show (arr3 a b c)[6]? = some (.int .i64 c.kind) from rfl)
      have q7 := B.out.2.cell (show (arr3 a b c)[7]? = some (.int .i64 c.n) from rfl)
      have q8 := B.out.2.cell (show (arr3 a b c)[8]? = some (.string (str c.s)) from rfl)
      have hlt := B.out.2.lt
      go_wp2_with (fail)
      refine (CL.out _ _ _).mono ?_
      rintro e w1 ⟨rfl, hb1⟩
      replace B := Lib.hid (B.out.step hb1)
      clear q0 q1 q2 q3 q4 q5 q6 q7 q8 hlt hb1
      have q0 := B.out.2.cell (show (arr3 a b c)[0]? = some (.int .i64 a.kind) from rfl)
      have q1 := B.out.2.cell (show (arr3 a b c)[1]? = some (.int .i64 a.n) from rfl)
      have q2 := B.out.2.cell (show (arr3 a b c)[2]? = some (.string (str a.s)) from rfl)
      have q3 := B.out.2.cell (show (arr3 a b c)[3]? = some (.int .i64 b.kind) from rfl)
      have q4 := B.out.2.cell (show (arr3 a b c)[4]? = some (.int .i64 b.n) from rfl)
      have q5 := B.out.2.cell (show (arr3 a b c)[5]? = some (.string (str b.s)) from rfl)
      have q6 := B.out.2.cell (show (arr3 a b c)[6]? = some (.int .i64 c.kind) from rfl)
      have q7 := B.out.2.cell (show (arr3 a b c)[7]? = some (.int .i64 c.n) from rfl)
      have q8 := B.out.2.cell (show (arr3 a b c)[8]? = some (.string (str c.s)) from rfl)
      have hlt := B.out.2.lt
      go_wp2_with (fail)
      refine wp_region_grow (by kernel_rfl) (by kernel_rfl) ?_
      repeat (quiet_step ((first | (go_at_call 16; exact quiet_grow (c_value_Compare _ _ _)) | (go_at_call 13; exact quiet_grow (c_law04_awake _ (HP.out _ (B.out.1.trans ((grow_below _ _).mono B.out.1.size))) (HM.out _ (B.out.1.trans ((grow_below _ _).mono B.out.1.size))))))))
      refine wpQuiet_nil ?_
      intro w3 hb3
      go_wp2_with (fail)
      go_ret
      exact RetV.bool rfl (B.out.1.trans (hb3.mono B.out.1.size))
end Go.Proofs.YtkofjkadmknmjaaDoor
