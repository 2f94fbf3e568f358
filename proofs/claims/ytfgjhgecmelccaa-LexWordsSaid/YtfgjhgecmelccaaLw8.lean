/-
  Lemmas (walks and plain laws), in one text.
-/
import Derived.Test.YtfgjhgecmelccaaLw7
import Derived.WalkKit
import Derived.WalkSpells
import Derived.WalkLawsBesides
import Derived.Lib.Hide
import Derived.Deep.QuietTactic
import Derived.BigQuiet
import Derived.Maps.AppendAt
import Derived.WalkSmall
import Derived.StillTail
import Derived.RangeFuncNested
import Derived.RangeFuncCalls
import Derived.OrdersIn
import Derived.ControlIn
import Derived.Test.YtfgjhgecmelccaaProg
import Derived.Deep.CutBlock
import Derived.Deep.DeepCutAuto
import Derived.Deep.AppendSrc
import Derived.Lib.AppendStr
import Derived.Laws.BytesArg
import Derived.WalkMore
import Derived.ScopeJumps
import Derived.Lib.Bytealg
import Derived.Laws.Externs
import Derived.Laws.IdiomStrings
import Derived.Outline
import Derived.IntWalk
import Derived.Laws.Tables
import Derived.Laws.Rows
import Derived.ChangeKeysEq
import Derived.Laws.StructEq
import Derived.RangeFuncBound
import Derived.RangeFuncLeaves
import Derived.OwnWalkIn
import Derived.LoopIn
import Derived.Shelf.Abstract
import Derived.Test.YtfgjhgecmelccaaRows
import Derived.ProofKit
import Derived.OpenShut
import Derived.JoinedCond
import Derived.Deep.Slices
import Derived.Deep.Fields
import Derived.Carry
namespace Go.Proofs.Ytfgjhgecmelccaa
open Go.RowKit

/-- A word's cells. -/
abbrev wdA (kind n p : Int) (s : List UInt8) : Array Value := #[.int .i64 kind, .int .i64 n, .int .i64 p, .string (str s)]
theorem strWd : Str Try.prog 34 4 := ⟨⟨_, Try.underlying34, rfl⟩, by kernel_rfl⟩
def fstT (o : Option Fst) (p : Int) (base : Int) : Value := match o with
  | some x => .tuple #[.agg (wdA x.kind x.n p x.s), .int .i64 (base + x.len)]
  | none => .tuple #[.agg (wdA 0 0 0 []), .int .i64 0]
theorem fst_letters {c : UInt8} {r : List UInt8} (h : 97 ≤ c.toNat ∧ c.toNat ≤ 122) : fst (c :: r) = some ⟨1, 0, (c :: r).take (run 97 122 (c :: r)), run 97 122 (c :: r)⟩ := by rw [fst, if_pos h]
theorem fst_digits {c : UInt8} {r : List UInt8} (h : 48 ≤ c.toNat ∧ c.toNat ≤ 57) : fst (c :: r) = (intR ((c :: r).take (run 48 57 (c :: r))) 1099511627776).map fun (v : Nat) => (⟨2, (v : Int), [], run 48 57 (c :: r)⟩ : Fst) := by rw [fst, if_neg (by omega), if_pos h]
theorem intR_34 {c : UInt8} {r : List UInt8} (h : c.toNat = 34) (m : Int) : intR (c :: r) m = none := by
  unfold intR
  split
  · rfl
  · rw [intF, if_neg (by omega)]
theorem valR_quoted {c : UInt8} {r : List UInt8} (h : c.toNat = 34) : valR (c :: r) = match unquote (c :: r) with | some u => if u.length ≤ 24 then some ⟨2, 0, u⟩ else none | none => none := by
  unfold valR
  rw [if_neg (fun e => by injection e with e; rw [e] at h; revert h; decide), intR_34 h]
  rfl
theorem valR_nil : valR [] = none := by decide
/-- The word in quotes that a text begins with. -/
theorem fst_quoted {c : UInt8} {r : List UInt8} (h : c.toNat = 34) : fst (c :: r) = match valR ((c :: r).take (qt r 1)) with | some v => some ⟨3, 0, v.s, qt r 1⟩ | none => none := by
  have hc : c = 34 := u8_eq h
  rw [fst, if_neg (by omega), if_neg (by omega), if_pos hc]
  by_cases h0 : qt r 1 = 0
  · rw [if_pos h0, h0, List.take_zero, valR_nil]
  · rw [if_neg h0]
    obtain ⟨m, hm⟩ : ∃ m, qt r 1 = m + 1 := ⟨qt r 1 - 1, by omega⟩
    rw [hm, List.take_succ_cons, valR_quoted h]
    cases unquote (c :: List.take m r) with
    | none => rfl
    | some u =>
      simp only
      split <;> rfl
theorem fst_other {c : UInt8} {r : List UInt8} (h1 : ¬ (97 ≤ c.toNat ∧ c.toNat ≤ 122)) (h2 : ¬ (48 ≤ c.toNat ∧ c.toNat ≤ 57)) (h3 : c.toNat ≠ 34) : fst (c :: r) = if sign c then some ⟨4, 0, [c], 1⟩ else none := by
  rw [fst, if_neg h1, if_neg h2, if_neg (fun e => h3 (by rw [e]; rfl))]
set_option maxHeartbeats 4000000 in
set_option maxRecDepth 4000 in
theorem c_lex_first (c : UInt8) (r : List UInt8) (w : World) (hs : r.length ≤ 100000) : Calls Try.prog 14 #[.string (str (c :: r))] w (RetV w (fstT (fst (c :: r)) 0 0)) := by
  have B0 := Lib.hid (At.new w 34 (wdA 0 0 0 []))
  have hc := c.toNat_lt
  by_cases g1 : 97 ≤ c.toNat ∧ c.toNat ≤ 122
  · have hl := run_le 97 122 (c :: r)
    have CR := Lib.hid (fun w' => show Calls Try.prog 26 #[.string (str (c :: r)), .int .u8 97, .int .u8 122] w' (RetV w' (.int .i64 (run 97 122 (c :: r) : Nat))) from c_lex_run (c :: r) 97 122 w' (by simp; omega))
    have F := fst_letters (r := r) g1
    obtain ⟨m, hm⟩ : ∃ m, m = run 97 122 (c :: r) := ⟨_, rfl⟩
    rw [← hm] at CR F hl
    have E := Lib.hid (congrArg (fun o => fstT o 0 0) F)
    have j1 : decide ((97 : Int) ≤ (c.toNat : Int)) = true := by rw [decide_eq_true_iff]; omega
    have j2 : decide ((c.toNat : Int) ≤ 122) = true := by rw [decide_eq_true_iff]; omega
    have hl' : m ≤ r.length + 1 := by simpa using hl
    clear g1 F hm
    go_enter Try.func14, Try.ntmps14
    go_wp2_with (fail)
    refine (CR.out _).mono ?_
    rintro e w1 ⟨rfl, hb1⟩
    replace B0 := Lib.hid (B0.out.step hb1)
    clear hb1
    go_wp2_with (with_reducible refine stop_store 34 (.tmp 2) (.tmp 26) rfl rfl ?_)
    refine Stop.mk (wpList_storeB rfl _ _ _ rfl w.heap.size _ rfl rfl _ B0.out.2 strWd rfl rfl (by simp [Value.oneCell']) ?_)
    intro w9 hb9 hk9
    go_wp2_with (fail)
    refine bodyPost_ret (results_B2 rfl rfl rfl hb9 strWd rfl) rfl ⟨?_, B0.out.1.trans (hk9.oneB B0.out.1.size (Nat.le_refl _))⟩
    rw [E.out]
    simp [fstT]
  · by_cases g2 : 48 ≤ c.toNat ∧ c.toNat ≤ 57
    · have hl := run_le 48 57 (c :: r)
      have CR := Lib.hid (fun w' => show Calls Try.prog 26 #[.string (str (c :: r)), .int .u8 48, .int .u8 57] w' (RetV w' (.int .i64 (run 48 57 (c :: r) : Nat))) from c_lex_run (c :: r) 48 57 w' (by simp; omega))
      have F := fst_digits (r := r) g2
      obtain ⟨m, hm⟩ : ∃ m, m = run 48 57 (c :: r) := ⟨_, rfl⟩
      rw [← hm] at CR F hl
      have j1 : decide ((97 : Int) ≤ (c.toNat : Int)) = false := by rw [decide_eq_false_iff_not]; omega
      have j2 : decide ((48 : Int) ≤ (c.toNat : Int)) = true := by rw [decide_eq_true_iff]; omega
      have j3 : decide ((c.toNat : Int) ≤ 57) = true := by rw [decide_eq_true_iff]; omega
      have hl' : m ≤ r.length + 1 := by simpa using hl
      have CI := Lib.hid (fun w' => c_bits_Int ((c :: r).take m) 1099511627776 w' (by rw [List.length_take]; simp; omega))
      clear g1 g2 hm
      cases hi : intR ((c :: r).take m) 1099511627776 with
      | some v =>
        rw [hi] at F
        rw [(intR_some hi).1, (intR_some hi).2] at CI
        have E := Lib.hid (congrArg (fun o => fstT o 0 0) F)
        clear F hi
        go_enter Try.func14, Try.ntmps14
        go_wp2_with (fail)
        refine (CR.out _).mono ?_
        rintro e w1 ⟨rfl, hb1⟩
        replace B0 := Lib.hid (B0.out.step hb1)
        clear hb1
        go_wp2_with (fail)
        refine (CI.out _).mono ?_
        rintro e w2 ⟨rfl, hb2⟩
        replace B0 := Lib.hid (B0.out.step hb2)
        clear hb2
        go_wp2_with (with_reducible refine stop_store 34 (.tmp 2) (.tmp 46) rfl rfl ?_)
        refine Stop.mk (wpList_storeB rfl _ _ _ rfl w.heap.size _ rfl rfl _ B0.out.2 strWd rfl rfl (by simp [Value.oneCell']) ?_)
        intro w9 hb9 hk9
        go_wp2_with (fail)
        refine bodyPost_ret (results_B2 rfl rfl rfl hb9 strWd rfl) rfl ⟨?_, B0.out.1.trans (hk9.oneB B0.out.1.size (Nat.le_refl _))⟩
        rw [E.out]
        simp [fstT]
      | none =>
        rw [hi] at F
        rw [(intR_none hi).1, (intR_none hi).2] at CI
        have E := Lib.hid (congrArg (fun o => fstT o 0 0) F)
        clear F hi
        go_enter Try.func14, Try.ntmps14
        go_wp2_with (fail)
        refine (CR.out _).mono ?_
        rintro e w1 ⟨rfl, hb1⟩
        replace B0 := Lib.hid (B0.out.step hb1)
        clear hb1
        go_wp2_with (fail)
        refine (CI.out _).mono ?_
        rintro e w2 ⟨rfl, hb2⟩
        replace B0 := Lib.hid (B0.out.step hb2)
        clear hb2
        go_wp2_with (with_reducible refine stop_store 34 (.tmp 2) (.tmp 76) rfl rfl ?_)
        refine Stop.mk (wpList_storeB rfl _ _ _ rfl w.heap.size _ rfl rfl _ B0.out.2 strWd rfl rfl (by simp [Value.oneCell']) ?_)
        intro w9 hb9 hk9
        go_wp2_with (fail)
        refine bodyPost_ret (results_B2 rfl rfl rfl hb9 strWd rfl) rfl ⟨?_, B0.out.1.trans (hk9.oneB B0.out.1.size (Nat.le_refl _))⟩
        rw [E.out]
        simp [fstT]
    · by_cases g3 : c.toNat = 34
      · have hl := qt_le r.length r 1 (Nat.le_refl _)
        have CQ := Lib.hid (fun w' => show Calls Try.prog 28 #[.string (str (c :: r))] w' (RetV w' (.int .i64 (qt r 1 : Nat))) from c_lex_quoted (c :: r) w' (by simp; omega))
        have F := fst_quoted (r := r) g3
        obtain ⟨m, hm⟩ : ∃ m, m = qt r 1 := ⟨_, rfl⟩
        have H0 := Lib.hid (show m = 0 → valR ((c :: r).take m) = none from fun h => by rw [h, List.take_zero]; exact valR_nil)
        rw [← hm] at CQ F hl
        have j1 : decide ((97 : Int) ≤ (c.toNat : Int)) = false := by rw [decide_eq_false_iff_not]; omega
        have j2 : decide ((48 : Int) ≤ (c.toNat : Int)) = false := by rw [decide_eq_false_iff_not]; omega
        have j3 : ((c.toNat : Int) == 34) = true := by rw [beq_iff_eq]; omega
        have CV := Lib.hid (fun w' => c_value_Read ((c :: r).take m) w' (by rw [List.length_take]; simp; omega))
        have hl' : m ≤ r.length + 1 := by omega
        clear g1 g2 g3 hm hl
        cases hv : valR ((c :: r).take m) with
        | some v =>
          rw [hv] at F
          rw [valT_some hv] at CV
          have hm0 : 0 < m := by
            rcases Nat.eq_zero_or_pos m with h | h
            · have := H0.out h; rw [hv] at this; cases this
            · exact h
          have E := Lib.hid (congrArg (fun o => fstT o 0 0) F)
          have k1 : decide ((0 : Int) < (m : Int)) = true := by rw [decide_eq_true_iff]; omega
          clear F hv
          go_enter Try.func14, Try.ntmps14
          go_wp2_with (fail)
          refine (CQ.out _).mono ?_
          rintro e w1 ⟨rfl, hb1⟩
          replace B0 := Lib.hid (B0.out.step hb1)
          clear hb1
          go_wp2_with (fail)
          refine (CV.out _).mono ?_
          rintro e w2 ⟨rfl, hb2⟩
          replace B0 := Lib.hid (B0.out.step hb2)
          clear hb2
          go_wp2_with (with_reducible refine stop_store 57 (.tmp 10) (.tmp 58) rfl rfl ?_)
          refine Stop.mk (wpList_storeB rfl _ _ _ rfl w2.heap.size v.c3 rfl rfl _ (Blk.new _ _ _) strVl rfl rfl (by simp [Value.oneCell']) ?_)
          intro w3 hb3 hk3
          replace B0 := Lib.hid (B0.out.step (fresh_below hk3))
          have q2 := hb3.cell (show v.c3[2]? = _ from rfl)
          have q0 := hb3.cell (show v.c3[0]? = _ from rfl)
          have q1 := hb3.cell (show v.c3[1]? = _ from rfl)
          have hlt := hb3.lt
          clear hb3 hk3
          go_wp2_with (with_reducible refine stop_store 34 (.tmp 2) (.tmp 67) rfl rfl ?_)
          refine Stop.mk (wpList_storeB rfl _ _ _ rfl w.heap.size _ rfl rfl _ B0.out.2 strWd rfl rfl (by simp [Value.oneCell']) ?_)
          intro w9 hb9 hk9
          go_wp2_with (fail)
          refine bodyPost_ret (results_B2 rfl rfl rfl hb9 strWd rfl) rfl ⟨?_, B0.out.1.trans (hk9.oneB B0.out.1.size (Nat.le_refl _))⟩
          rw [E.out]
          simp [fstT]
        | none =>
          rw [hv] at F
          rw [valT_none hv] at CV
          have E := Lib.hid (congrArg (fun o => fstT o 0 0) F)
          clear F hv
          go_enter Try.func14, Try.ntmps14
          go_wp2_with (fail)
          refine (CQ.out _).mono ?_
          rintro e w1 ⟨rfl, hb1⟩
          replace B0 := Lib.hid (B0.out.step hb1)
          clear hb1
          go_wp2_with (fail)
          refine (CV.out _).mono ?_
          rintro e w2 ⟨rfl, hb2⟩
          replace B0 := Lib.hid (B0.out.step hb2)
          clear hb2
          go_wp2_with (with_reducible refine stop_store 57 (.tmp 10) (.tmp 58) rfl rfl ?_)
          refine Stop.mk (wpList_storeB rfl _ _ _ rfl w2.heap.size vz.c3 rfl rfl _ (Blk.new _ _ _) strVl rfl rfl (by simp [Value.oneCell']) ?_)
          intro w3 hb3 hk3
          replace B0 := Lib.hid (B0.out.step (fresh_below hk3))
          clear hb3 hk3
          go_wp2_with (with_reducible refine stop_store 34 (.tmp 2) (.tmp 76) rfl rfl ?_)
          refine Stop.mk (wpList_storeB rfl _ _ _ rfl w.heap.size _ rfl rfl _ B0.out.2 strWd rfl rfl (by simp [Value.oneCell']) ?_)
          intro w9 hb9 hk9
          go_wp2_with (fail)
          refine bodyPost_ret (results_B2 rfl rfl rfl hb9 strWd rfl) rfl ⟨?_, B0.out.1.trans (hk9.oneB B0.out.1.size (Nat.le_refl _))⟩
          rw [E.out]
          simp [fstT]
      · have F := fst_other (r := r) g1 g2 g3
        have j0 : ((c.toNat : Int) == 34) = false := by rw [beq_eq_false_iff_ne]; omega
        have CX := Lib.hid (fun w' => c_strings_IndexByte (str [40, 41, 61, 60, 62, 126]) c.toNat w')
        have SI := sign_index c
        obtain ⟨ix, hix⟩ : ∃ x, x = Lib.indexByte [40, 41, 61, 60, 62, 126] c := ⟨_, rfl⟩
        have hX : Lib.indexByte (str [40, 41, 61, 60, 62, 126]).data.toList (c.toNat : Int).toNat.toUInt8 = ix := by
          rw [hix]
          show Lib.indexByte [40, 41, 61, 60, 62, 126] (UInt8.ofNat c.toNat) = _
          rw [UInt8.ofNat_toNat]
        rw [hX] at CX
        rw [← hix] at SI
        have hcs : c.toNat < 48 ∨ (57 < c.toNat ∧ c.toNat < 97) ∨ 122 < c.toNat := by omega
        clear hX hix g1 g2 g3
        cases hsg : sign c
        case true =>
          rw [hsg] at F SI
          have E := Lib.hid (congrArg (fun o => fstT o 0 0) F)
          clear F hsg
          rcases hcs with g | ⟨g, g'⟩ | g
          · have j1 : decide ((97 : Int) ≤ (c.toNat : Int)) = false := by rw [decide_eq_false_iff_not]; omega
            have j2 : decide ((48 : Int) ≤ (c.toNat : Int)) = false := by rw [decide_eq_false_iff_not]; omega
            clear g
            go_enter Try.func14, Try.ntmps14
            go_wp2_with (fail)
            refine (CX.out _).mono ?_
            rintro e w1 ⟨rfl, rfl⟩
            go_wp2_with (with_reducible refine stop_store 34 (.tmp 2) (.tmp 75) rfl rfl ?_)
            refine Stop.mk (wpList_storeB rfl _ _ _ rfl w.heap.size _ rfl rfl _ B0.out.2 strWd rfl rfl (by simp [Value.oneCell']) ?_)
            intro w9 hb9 hk9
            go_wp2_with (fail)
            refine bodyPost_ret (results_B2 rfl rfl rfl hb9 strWd rfl) rfl ⟨?_, B0.out.1.trans (hk9.oneB B0.out.1.size (Nat.le_refl _))⟩
            rw [E.out]
            simp [fstT]
          · have j1 : decide ((97 : Int) ≤ (c.toNat : Int)) = false := by rw [decide_eq_false_iff_not]; omega
            have j2 : decide ((48 : Int) ≤ (c.toNat : Int)) = true := by rw [decide_eq_true_iff]; omega
            have j3 : decide ((c.toNat : Int) ≤ 57) = false := by rw [decide_eq_false_iff_not]; omega
            clear g g'
            go_enter Try.func14, Try.ntmps14
            go_wp2_with (fail)
            refine (CX.out _).mono ?_
            rintro e w1 ⟨rfl, rfl⟩
            go_wp2_with (with_reducible refine stop_store 34 (.tmp 2) (.tmp 75) rfl rfl ?_)
            refine Stop.mk (wpList_storeB rfl _ _ _ rfl w.heap.size _ rfl rfl _ B0.out.2 strWd rfl rfl (by simp [Value.oneCell']) ?_)
            intro w9 hb9 hk9
            go_wp2_with (fail)
            refine bodyPost_ret (results_B2 rfl rfl rfl hb9 strWd rfl) rfl ⟨?_, B0.out.1.trans (hk9.oneB B0.out.1.size (Nat.le_refl _))⟩
            rw [E.out]
            simp [fstT]
          · have j1 : decide ((97 : Int) ≤ (c.toNat : Int)) = true := by rw [decide_eq_true_iff]; omega
            have j1' : decide ((c.toNat : Int) ≤ 122) = false := by rw [decide_eq_false_iff_not]; omega
            have j2 : decide ((48 : Int) ≤ (c.toNat : Int)) = true := by rw [decide_eq_true_iff]; omega
            have j3 : decide ((c.toNat : Int) ≤ 57) = false := by rw [decide_eq_false_iff_not]; omega
            clear g
            go_enter Try.func14, Try.ntmps14
            go_wp2_with (fail)
            refine (CX.out _).mono ?_
            rintro e w1 ⟨rfl, rfl⟩
            go_wp2_with (with_reducible refine stop_store 34 (.tmp 2) (.tmp 75) rfl rfl ?_)
            refine Stop.mk (wpList_storeB rfl _ _ _ rfl w.heap.size _ rfl rfl _ B0.out.2 strWd rfl rfl (by simp [Value.oneCell']) ?_)
            intro w9 hb9 hk9
            go_wp2_with (fail)
            refine bodyPost_ret (results_B2 rfl rfl rfl hb9 strWd rfl) rfl ⟨?_, B0.out.1.trans (hk9.oneB B0.out.1.size (Nat.le_refl _))⟩
            rw [E.out]
            simp [fstT]
        case false =>
          rw [hsg] at F SI
          have E := Lib.hid (congrArg (fun o => fstT o 0 0) F)
          clear F hsg
          rcases hcs with g | ⟨g, g'⟩ | g
          · have j1 : decide ((97 : Int) ≤ (c.toNat : Int)) = false := by rw [decide_eq_false_iff_not]; omega
            have j2 : decide ((48 : Int) ≤ (c.toNat : Int)) = false := by rw [decide_eq_false_iff_not]; omega
            clear g
            go_enter Try.func14, Try.ntmps14
            go_wp2_with (fail)
            refine (CX.out _).mono ?_
            rintro e w1 ⟨rfl, rfl⟩
            go_wp2_with (with_reducible refine stop_store 34 (.tmp 2) (.tmp 76) rfl rfl ?_)
            refine Stop.mk (wpList_storeB rfl _ _ _ rfl w.heap.size _ rfl rfl _ B0.out.2 strWd rfl rfl (by simp [Value.oneCell']) ?_)
            intro w9 hb9 hk9
            go_wp2_with (fail)
            refine bodyPost_ret (results_B2 rfl rfl rfl hb9 strWd rfl) rfl ⟨?_, B0.out.1.trans (hk9.oneB B0.out.1.size (Nat.le_refl _))⟩
            rw [E.out]
            simp [fstT]
          · have j1 : decide ((97 : Int) ≤ (c.toNat : Int)) = false := by rw [decide_eq_false_iff_not]; omega
            have j2 : decide ((48 : Int) ≤ (c.toNat : Int)) = true := by rw [decide_eq_true_iff]; omega
            have j3 : decide ((c.toNat : Int) ≤ 57) = false := by rw [decide_eq_false_iff_not]; omega
            clear g g'
            go_enter Try.func14, Try.ntmps14
            go_wp2_with (fail)
            refine (CX.out _).mono ?_
            rintro e w1 ⟨rfl, rfl⟩
            go_wp2_with (with_reducible refine stop_store 34 (.tmp 2) (.tmp 76) rfl rfl ?_)
            refine Stop.mk (wpList_storeB rfl _ _ _ rfl w.heap.size _ rfl rfl _ B0.out.2 strWd rfl rfl (by simp [Value.oneCell']) ?_)
            intro w9 hb9 hk9
            go_wp2_with (fail)
            refine bodyPost_ret (results_B2 rfl rfl rfl hb9 strWd rfl) rfl ⟨?_, B0.out.1.trans (hk9.oneB B0.out.1.size (Nat.le_refl _))⟩
            rw [E.out]
            simp [fstT]
          · have j1 : decide ((97 : Int) ≤ (c.toNat : Int)) = true := by rw [decide_eq_true_iff]; omega
            have j1' : decide ((c.toNat : Int) ≤ 122) = false := by rw [decide_eq_false_iff_not]; omega
            have j2 : decide ((48 : Int) ≤ (c.toNat : Int)) = true := by rw [decide_eq_true_iff]; omega
            have j3 : decide ((c.toNat : Int) ≤ 57) = false := by rw [decide_eq_false_iff_not]; omega
            clear g
            go_enter Try.func14, Try.ntmps14
            go_wp2_with (fail)
            refine (CX.out _).mono ?_
            rintro e w1 ⟨rfl, rfl⟩
            go_wp2_with (with_reducible refine stop_store 34 (.tmp 2) (.tmp 76) rfl rfl ?_)
            refine Stop.mk (wpList_storeB rfl _ _ _ rfl w.heap.size _ rfl rfl _ B0.out.2 strWd rfl rfl (by simp [Value.oneCell']) ?_)
            intro w9 hb9 hk9
            go_wp2_with (fail)
            refine bodyPost_ret (results_B2 rfl rfl rfl hb9 strWd rfl) rfl ⟨?_, B0.out.1.trans (hk9.oneB B0.out.1.size (Nat.le_refl _))⟩
            rw [E.out]
            simp [fstT]
end Go.Proofs.Ytfgjhgecmelccaa
namespace Go.Proofs.Ytfgjhgecmelccaa
open Go.RowKit

/-- Blocks from number B on, each known whole, no two the same. -/
def Blks (w : World) (B : Nat) : List (Nat × Array Value) → Prop
  | [] => True
  | x :: r => (Blk w x.1 x.2 ∧ B ≤ x.1 ∧ ∀ y ∈ r, y.1 ≠ x.1) ∧ Blks w B r
section
variable {w w' : World} {B : Nat} {l : List (Nat × Array Value)}
theorem Blks.kept {q : Option Nat} (h : Blks w B l) (k : Kept q w.heap.size w w') (hq : ∀ g, q = some g → g < B) : Blks w' B l := by
  induction l with
  | nil => trivial
  | cons x r ih =>
    obtain ⟨⟨h1, h2, h3⟩, h4⟩ := h
    exact ⟨⟨h1.kept k h1.lt (fun e => by have := hq _ e; omega), h2, h3⟩, ih h4⟩
theorem Blks.far {q : Nat} (h : Blks w B l) (k : Kept (some q) w.heap.size w w') (hq : ∀ y ∈ l, y.1 ≠ q) : Blks w' B l := by
  induction l with
  | nil => trivial
  | cons x r ih =>
    obtain ⟨⟨h1, h2, h3⟩, h4⟩ := h
    exact ⟨⟨h1.kept k h1.lt (fun e => by injection e with e; exact hq x (List.mem_cons_self ..) e.symm), h2, h3⟩, ih h4 (fun y hy => hq y (List.mem_cons_of_mem _ hy))⟩
theorem Blks.lt (h : Blks w B l) : ∀ y ∈ l, y.1 < w.heap.size := by
  induction l with
  | nil => intro y hy; cases hy
  | cons x r ih =>
    intro y hy
    rcases List.mem_cons.1 hy with rfl | hy
    · exact h.1.1.lt
    · exact ih h.2 y hy
end
theorem kept_set (w : World) (g off : Nat) (v : Value) : Kept (some g) w.heap.size w (w.setCell ⟨g, off, none⟩ v) := (Kept.refl (some g) _ w).setCell (q := ⟨g, off, none⟩) (.inr rfl) v
/-- The program's reader, and blocks of the call's own. -/
structure EnvP (p : Option Nat) (S : Rd) (w w' : World) (l : List (Nat × Array Value)) : Prop where
  low : ∀ g, p = some g → g < w.heap.size
  kept : Kept p w.heap.size w w'
  rd : RdP w' p S
  blks : Blks w' w.heap.size l
section
variable {p : Option Nat} {S S' : Rd} {w w1 w2 : World} {l : List (Nat × Array Value)} {g g0 : Nat} {cs c0 cs' : Array Value}
theorem EnvP.start (r : RdP w p S) : EnvP p S w w [] := ⟨fun _ hg => r.lt hg, Kept.refl _ _ _, r, trivial⟩
theorem EnvP.size (h : EnvP p S w w1 l) : w.heap.size ≤ w1.heap.size := h.kept.size
theorem EnvP.call (h : EnvP p S w w1 l) (r : RdP w2 p S') (k : Kept p w1.heap.size w1 w2) : EnvP p S' w w2 l :=
  ⟨h.low, h.kept.then_kept k h.size, r, h.blks.kept k h.low⟩
theorem EnvP.below (h : EnvP p S w w1 l) (k : Below w1.heap.size w1 w2) : EnvP p S w w2 l :=
  ⟨h.low, h.kept.then_below k h.size, h.rd.below k, h.blks.kept (q := none) (.of_below k) (fun _ e => by cases e)⟩
theorem EnvP.alloc (h : EnvP p S w w1 l) (t : TypeId) (cs : Array Value) : EnvP p S w (w1.alloc (.cells cs t)) ((w1.heap.size, cs) :: l) := by
  have h' := h.below ((Below.refl _ _).alloc (Nat.le_refl _) (.cells cs t))
  exact ⟨h.low, h'.kept, h'.rd, ⟨Blk.new _ _ _, h.size, fun y hy => by have := h.blks.lt y hy; simp only; omega⟩, h'.blks⟩
theorem EnvP.own (h : EnvP p S w w1 l) (hg : w.heap.size ≤ g) (k : Kept (some g) w1.heap.size w1 w2) : Kept p w.heap.size w w2 ∧ RdP w2 p S :=
  ⟨h.kept.trans (k.one h.size (.inl hg)), h.rd.kept k (fun a b ha hb => by injection hb with hb; have := h.low a ha; omega)⟩
theorem EnvP.b0 (h : EnvP p S w w1 ((g, cs) :: l)) : Blk w1 g cs := h.blks.1.1
theorem EnvP.b1 (h : EnvP p S w w1 ((g0, c0) :: (g, cs) :: l)) : Blk w1 g cs := h.blks.2.1.1
theorem EnvP.as (h : EnvP p S w w1 ((g, cs) :: l)) (e : cs = cs') : EnvP p S w w1 ((g, cs') :: l) := e ▸ h
theorem EnvP.state (h : EnvP p S w w1 l) (e : S = S') : EnvP p S' w w1 l := e ▸ h
end
/-- The reference's reader, and blocks of the call's own. -/
structure EnvR (p : Nat) (S : Rd) (w w' : World) (l : List (Nat × Array Value)) : Prop where
  low : p < w.heap.size
  kept : Kept (some p) w.heap.size w w'
  rd : RdR w' p S
  blks : Blks w' w.heap.size l
section
variable {p : Nat} {S S' : Rd} {w w1 w2 : World} {l : List (Nat × Array Value)} {g g0 : Nat} {cs c0 cs' : Array Value}
theorem EnvR.start (r : RdR w p S) : EnvR p S w w [] := ⟨r.lt, Kept.refl _ _ _, r, trivial⟩
theorem EnvR.size (h : EnvR p S w w1 l) : w.heap.size ≤ w1.heap.size := h.kept.size
theorem EnvR.call (h : EnvR p S w w1 l) (r : RdR w2 p S') (k : Kept (some p) w1.heap.size w1 w2) : EnvR p S' w w2 l :=
  ⟨h.low, h.kept.then_kept k h.size, r, h.blks.kept k (fun g e => by injection e with e; have := h.low; omega)⟩
theorem EnvR.below (h : EnvR p S w w1 l) (k : Below w1.heap.size w1 w2) : EnvR p S w w2 l :=
  ⟨h.low, h.kept.then_below k h.size, h.rd.below k, h.blks.kept (q := none) (.of_below k) (fun _ e => by cases e)⟩
theorem EnvR.alloc (h : EnvR p S w w1 l) (t : TypeId) (cs : Array Value) : EnvR p S w (w1.alloc (.cells cs t)) ((w1.heap.size, cs) :: l) := by
  have h' := h.below ((Below.refl _ _).alloc (Nat.le_refl _) (.cells cs t))
  exact ⟨h.low, h'.kept, h'.rd, ⟨Blk.new _ _ _, h.size, fun y hy => by have := h.blks.lt y hy; simp only; omega⟩, h'.blks⟩
theorem EnvR.own (h : EnvR p S w w1 l) (hg : w.heap.size ≤ g) (k : Kept (some g) w1.heap.size w1 w2) : Kept (some p) w.heap.size w w2 ∧ RdR w2 p S :=
  ⟨h.kept.trans (k.one h.size (.inl hg)), h.rd.kept k (fun e => by injection e with e; have := h.low; omega)⟩
theorem EnvR.b0 (h : EnvR p S w w1 ((g, cs) :: l)) : Blk w1 g cs := h.blks.1.1
theorem EnvR.b1 (h : EnvR p S w w1 ((g0, c0) :: (g, cs) :: l)) : Blk w1 g cs := h.blks.2.1.1
theorem EnvR.as (h : EnvR p S w w1 ((g, cs) :: l)) (e : cs = cs') : EnvR p S w w1 ((g, cs') :: l) := e ▸ h
theorem EnvR.state (h : EnvR p S w w1 l) (e : S = S') : EnvR p S' w w1 l := e ▸ h
end
end Go.Proofs.Ytfgjhgecmelccaa
