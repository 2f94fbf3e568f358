/-
  Lemmas (walks and plain laws), in one text.
-/
import Derived.Test.YtfgjhgecmelccaaLw11
import Derived.WalkKit
import Derived.WalkSpells
import Derived.WalkLawsBesides
import Derived.Lib.Hide
import Derived.Deep.QuietTactic
import Derived.BigQuiet
import Derived.Maps.AppendAt
import Derived.WalkSmall
import Derived.StillTail
import Derived.RangeFuncNested
import Derived.RangeFuncCalls
import Derived.OrdersIn
import Derived.ControlIn
import Derived.Test.YtfgjhgecmelccaaProg
import Derived.Deep.CutBlock
import Derived.Deep.DeepCutAuto
import Derived.Deep.AppendSrc
import Derived.Lib.AppendStr
import Derived.Laws.BytesArg
import Derived.WalkMore
import Derived.ScopeJumps
import Derived.Lib.Bytealg
import Derived.Laws.Externs
import Derived.Laws.IdiomStrings
import Derived.Outline
import Derived.IntWalk
import Derived.Laws.Tables
import Derived.Laws.Rows
import Derived.ChangeKeysEq
import Derived.Laws.StructEq
import Derived.RangeFuncBound
import Derived.RangeFuncLeaves
import Derived.OwnWalkIn
import Derived.LoopIn
import Derived.Shelf.Abstract
import Derived.Test.YtfgjhgecmelccaaRows
import Derived.ProofKit
import Derived.OpenShut
import Derived.JoinedCond
import Derived.Deep.Slices
import Derived.Deep.Fields
import Derived.Carry
namespace Go.Proofs.Ytfgjhgecmelccaa
open Go.RowKit

theorem strWr : Str Try.prog 49 4 := ⟨⟨_, Try.underlying49, rfl⟩, by kernel_rfl⟩
theorem qt_shift (n : Nat) : ∀ (l : List UInt8) (k j : Nat), l.length ≤ n → 1 ≤ k → qt l (k + j) = if qt l k = 0 then 0 else qt l k + j := by
  induction n using Nat.strongRecOn with
  | _ n ih =>
    intro l k j hl hk
    cases l with
    | nil => rw [qt_none, qt_none]; rfl
    | cons c r =>
      by_cases h1 : c.toNat = 34
      · rw [qt_34 h1, qt_34 h1, if_neg (by omega)]; omega
      · by_cases h2 : c.toNat = 92
        · rw [qt_92 h2, qt_92 h2]
          have hr : (r.drop 1).length ≤ n - 1 := by rw [List.length_drop]; simp at hl; omega
          have := ih (n - 1) (by simp at hl; omega) (r.drop 1) (k + 2) j hr (by omega)
          rw [show k + j + 2 = k + 2 + j by omega]; exact this
        · rw [qt_other h1 h2, qt_other h1 h2]
          have hr : r.length ≤ n - 1 := by simp at hl; omega
          have := ih (n - 1) (by simp at hl; omega) r (k + 1) j hr (by omega)
          rw [show k + j + 1 = k + 1 + j by omega]; exact this
set_option maxHeartbeats 4000000 in
set_option maxRecDepth 4000 in
theorem c_ref09_one (s : List UInt8) (p : Nat) (w : World) (hs : s.length ≤ 1000) (hp : p < s.length) : Calls Try.prog 15 #[.string (str s), .int .i64 p] w (RetV w (fstT (fst (s.drop p)) p p)) := by
  have B0 := Lib.hid (At.new w 49 (wdA 0 0 0 []))
  have hc := s[p].toNat_lt
  have hd := List.drop_eq_getElem_cons hp
  have hdl : (s.drop p).length ≤ 1000 := by rw [List.length_drop]; omega
  by_cases g1 : 97 ≤ s[p].toNat ∧ s[p].toNat ≤ 122
  · have hl := run_le 97 122 (s.drop p)
    have CR := Lib.hid (fun w' => show Calls Try.prog 31 #[.string (str s), .int .i64 p, .int .u8 97, .int .u8 122] w' (RetV w' (.int .i64 ((p + run 97 122 (s.drop p) : Nat) : Int))) from c_ref09_run s p 97 122 w' (by omega) (by omega))
    have F : fst (s.drop p) = some ⟨1, 0, (s.drop p).take (run 97 122 (s.drop p)), run 97 122 (s.drop p)⟩ := by rw [hd]; exact fst_letters g1
    obtain ⟨m, hm⟩ : ∃ m, m = run 97 122 (s.drop p) := ⟨_, rfl⟩
    rw [← hm] at CR F hl
    rw [List.length_drop] at hl
    have E := Lib.hid (congrArg (fun o => fstT o p p) F)
    have j1 : decide ((97 : Int) ≤ (s[p].toNat : Int)) = true := by rw [decide_eq_true_iff]; omega
    have j2 : decide ((s[p].toNat : Int) ≤ 122) = true := by rw [decide_eq_true_iff]; omega
    clear g1 F hm hd
    go_enter Try.func15, Try.ntmps15
    go_wp2_with (fail)
    refine (CR.out _).mono ?_
    rintro e w1 ⟨rfl, hb1⟩
    replace B0 := Lib.hid (B0.out.step hb1)
    clear hb1
    go_wp2_with (with_reducible refine stop_store 49 (.tmp 4) (.tmp 31) rfl rfl ?_)
    refine Stop.mk (wpList_storeB rfl _ _ _ rfl w.heap.size _ rfl rfl _ B0.out.2 strWr rfl rfl (by simp [Value.oneCell']) ?_)
    intro w9 hb9 hk9
    go_wp2_with (fail)
    refine bodyPost_ret (results_B2 rfl rfl rfl hb9 strWr rfl) rfl ⟨?_, B0.out.1.trans (hk9.oneB B0.out.1.size (Nat.le_refl _))⟩
    rw [E.out]
    simp [fstT]
  · by_cases g2 : 48 ≤ s[p].toNat ∧ s[p].toNat ≤ 57
    · have hl := run_le 48 57 (s.drop p)
      have CR := Lib.hid (fun w' => show Calls Try.prog 31 #[.string (str s), .int .i64 p, .int .u8 48, .int .u8 57] w' (RetV w' (.int .i64 ((p + run 48 57 (s.drop p) : Nat) : Int))) from c_ref09_run s p 48 57 w' (by omega) (by omega))
      have F : fst (s.drop p) = (intR ((s.drop p).take (run 48 57 (s.drop p))) 1099511627776).map fun (v : Nat) => (⟨2, (v : Int), [], run 48 57 (s.drop p)⟩ : Fst) := by rw [hd]; exact fst_digits g2
      obtain ⟨m, hm⟩ : ∃ m, m = run 48 57 (s.drop p) := ⟨_, rfl⟩
      rw [← hm] at CR F hl
      rw [List.length_drop] at hl
      have j1 : decide ((97 : Int) ≤ (s[p].toNat : Int)) = false := by rw [decide_eq_false_iff_not]; omega
      have j2 : decide ((48 : Int) ≤ (s[p].toNat : Int)) = true := by rw [decide_eq_true_iff]; omega
      have j3 : decide ((s[p].toNat : Int) ≤ 57) = true := by rw [decide_eq_true_iff]; omega
      have CI := Lib.hid (fun w' => c_ref03_Int ((s.drop p).take m) 1099511627776 w' (by rw [List.length_take]; omega))
      clear g1 g2 hm hd
      cases hi : intR ((s.drop p).take m) 1099511627776 with
      | some v =>
        rw [hi] at F
        rw [(intR_some hi).1, (intR_some hi).2] at CI
        have E := Lib.hid (congrArg (fun o => fstT o p p) F)
        clear F hi
        go_enter Try.func15, Try.ntmps15
        go_wp2_with (fail)
        refine (CR.out _).mono ?_
        rintro e w1 ⟨rfl, hb1⟩
        replace B0 := Lib.hid (B0.out.step hb1)
        clear hb1
        go_wp2_with (fail)
        refine (CI.out _).mono ?_
        rintro e w2 ⟨rfl, hb2⟩
        replace B0 := Lib.hid (B0.out.step hb2)
        clear hb2
        go_wp2_with (with_reducible refine stop_store 49 (.tmp 4) (.tmp 55) rfl rfl ?_)
        refine Stop.mk (wpList_storeB rfl _ _ _ rfl w.heap.size _ rfl rfl _ B0.out.2 strWr rfl rfl (by simp [Value.oneCell']) ?_)
        intro w9 hb9 hk9
        go_wp2_with (fail)
        refine bodyPost_ret (results_B2 rfl rfl rfl hb9 strWr rfl) rfl ⟨?_, B0.out.1.trans (hk9.oneB B0.out.1.size (Nat.le_refl _))⟩
        rw [E.out]
        simp [fstT]
      | none =>
        rw [hi] at F
        rw [(intR_none hi).1, (intR_none hi).2] at CI
        have E := Lib.hid (congrArg (fun o => fstT o p p) F)
        clear F hi
        go_enter Try.func15, Try.ntmps15
        go_wp2_with (fail)
        refine (CR.out _).mono ?_
        rintro e w1 ⟨rfl, hb1⟩
        replace B0 := Lib.hid (B0.out.step hb1)
        clear hb1
        go_wp2_with (fail)
        refine (CI.out _).mono ?_
        rintro e w2 ⟨rfl, hb2⟩
        replace B0 := Lib.hid (B0.out.step hb2)
        clear hb2
        go_wp2_with (with_reducible refine stop_store 49 (.tmp 4) (.tmp 52) rfl rfl ?_)
        refine Stop.mk (wpList_storeB rfl _ _ _ rfl w.heap.size _ rfl rfl _ B0.out.2 strWr rfl rfl (by simp [Value.oneCell']) ?_)
        intro w9 hb9 hk9
        go_wp2_with (fail)
        refine bodyPost_ret (results_B2 rfl rfl rfl hb9 strWr rfl) rfl ⟨?_, B0.out.1.trans (hk9.oneB B0.out.1.size (Nat.le_refl _))⟩
        rw [E.out]
        simp [fstT]
    · by_cases g3 : s[p].toNat = 34
      · have hl := qt_le (s.drop (p + 1)).length (s.drop (p + 1)) 1 (Nat.le_refl _)
        rw [List.length_drop] at hl
        have F : fst (s.drop p) = match valR ((s.drop p).take (qt (s.drop (p + 1)) 1)) with | some v => some ⟨3, 0, v.s, qt (s.drop (p + 1)) 1⟩ | none => none := by rw [hd]; exact fst_quoted g3
        have SH := qt_shift _ (s.drop (p + 1)) 1 p (Nat.le_refl _) (Nat.le_refl _)
        have CQ0 := fun w' => c_ref09_quote s p w' (by omega) (by omega)
        rw [show p + 1 = 1 + p by omega] at CQ0
        obtain ⟨m, hm⟩ : ∃ m, m = qt (s.drop (1 + p)) 1 := ⟨_, rfl⟩
        rw [show p + 1 = 1 + p by omega] at SH F hl
        rw [← hm] at SH F hl
        have j1 : decide ((97 : Int) ≤ (s[p].toNat : Int)) = false := by rw [decide_eq_false_iff_not]; omega
        have j2 : decide ((48 : Int) ≤ (s[p].toNat : Int)) = false := by rw [decide_eq_false_iff_not]; omega
        have j3 : ((s[p].toNat : Int) == 34) = true := by rw [beq_iff_eq]; omega
        by_cases h0 : m = 0
        · have hq0 : qt (s.drop (1 + p)) (1 + p) = 0 := by rw [SH, if_pos h0]
          have CQ := Lib.hid (fun w' => show Calls Try.prog 33 #[.string (str s), .int .i64 p] w' (RetV w' (.int .i64 0)) by have := CQ0 w'; rw [hq0] at this; exact this)
          rw [h0, List.take_zero, valR_nil] at F
          have E := Lib.hid (congrArg (fun o => fstT o p p) F)
          clear F CQ0 SH hm h0 hq0 hd g1 g2 g3 hl
          go_enter Try.func15, Try.ntmps15
          go_wp2_with (fail)
          refine (CQ.out _).mono ?_
          rintro e w1 ⟨rfl, hb1⟩
          replace B0 := Lib.hid (B0.out.step hb1)
          clear hb1
          go_wp2_with (with_reducible refine stop_store 49 (.tmp 4) (.tmp 64) rfl rfl ?_)
          refine Stop.mk (wpList_storeB rfl _ _ _ rfl w.heap.size _ rfl rfl _ B0.out.2 strWr rfl rfl (by simp [Value.oneCell']) ?_)
          intro w9 hb9 hk9
          go_wp2_with (fail)
          refine bodyPost_ret (results_B2 rfl rfl rfl hb9 strWr rfl) rfl ⟨?_, B0.out.1.trans (hk9.oneB B0.out.1.size (Nat.le_refl _))⟩
          rw [E.out]
          simp [fstT]
        · have hq0 : qt (s.drop (1 + p)) (1 + p) = p + m := by rw [SH, if_neg h0]; omega
          have CQ := Lib.hid (fun w' => show Calls Try.prog 33 #[.string (str s), .int .i64 p] w' (RetV w' (.int .i64 ((p + m : Nat) : Int))) by have := CQ0 w'; rw [hq0] at this; exact this)
          have k1 : ((p : Int) + (m : Int) == 0) = false := by rw [beq_eq_false_iff_ne]; omega
          have hl' : p + m ≤ s.length := by omega
          have CV := Lib.hid (fun w' => c_ref04_Read ((s.drop p).take m) w' (by rw [List.length_take]; omega))
          clear CQ0 SH hm h0 hq0 hd g1 g2 g3 hl
          cases hv : valR ((s.drop p).take m) with
          | some v =>
            rw [hv] at F
            rw [valT_some hv] at CV
            have E := Lib.hid (congrArg (fun o => fstT o p p) F)
            clear F hv
            go_enter Try.func15, Try.ntmps15
            go_wp2_with (fail)
            refine (CQ.out _).mono ?_
            rintro e w1 ⟨rfl, hb1⟩
            replace B0 := Lib.hid (B0.out.step hb1)
            clear hb1
            go_wp2_with (fail)
            refine (CV.out _).mono ?_
            rintro e w2 ⟨rfl, hb2⟩
            replace B0 := Lib.hid (B0.out.step hb2)
            clear hb2
            go_wp2_with (with_reducible refine stop_store 57 (.tmp 12) (.tmp 71) rfl rfl ?_)
            refine Stop.mk (wpList_storeB rfl _ _ _ rfl w2.heap.size v.c3 rfl rfl _ (Blk.new _ _ _) strVl rfl rfl (by simp [Value.oneCell']) ?_)
            intro w3 hb3 hk3
            replace B0 := Lib.hid (B0.out.step (fresh_below hk3))
            have q2 := hb3.cell (show v.c3[2]? = _ from rfl)
            have hlt := hb3.lt
            clear hb3 hk3
            go_wp2_with (with_reducible refine stop_store 49 (.tmp 4) (.tmp 79) rfl rfl ?_)
            refine Stop.mk (wpList_storeB rfl _ _ _ rfl w.heap.size _ rfl rfl _ B0.out.2 strWr rfl rfl (by simp [Value.oneCell']) ?_)
            intro w9 hb9 hk9
            go_wp2_with (fail)
            refine bodyPost_ret (results_B2 rfl rfl rfl hb9 strWr rfl) rfl ⟨?_, B0.out.1.trans (hk9.oneB B0.out.1.size (Nat.le_refl _))⟩
            rw [E.out]
            simp [fstT]
          | none =>
            rw [hv] at F
            rw [valT_none hv] at CV
            have E := Lib.hid (congrArg (fun o => fstT o p p) F)
            clear F hv
            go_enter Try.func15, Try.ntmps15
            go_wp2_with (fail)
            refine (CQ.out _).mono ?_
            rintro e w1 ⟨rfl, hb1⟩
            replace B0 := Lib.hid (B0.out.step hb1)
            clear hb1
            go_wp2_with (fail)
            refine (CV.out _).mono ?_
            rintro e w2 ⟨rfl, hb2⟩
            replace B0 := Lib.hid (B0.out.step hb2)
            clear hb2
            go_wp2_with (with_reducible refine stop_store 57 (.tmp 12) (.tmp 71) rfl rfl ?_)
            refine Stop.mk (wpList_storeB rfl _ _ _ rfl w2.heap.size vz.c3 rfl rfl _ (Blk.new _ _ _) strVl rfl rfl (by simp [Value.oneCell']) ?_)
            intro w3 hb3 hk3
            replace B0 := Lib.hid (B0.out.step (fresh_below hk3))
            clear hb3 hk3
            go_wp2_with (with_reducible refine stop_store 49 (.tmp 4) (.tmp 75) rfl rfl ?_)
            refine Stop.mk (wpList_storeB rfl _ _ _ rfl w.heap.size _ rfl rfl _ B0.out.2 strWr rfl rfl (by simp [Value.oneCell']) ?_)
            intro w9 hb9 hk9
            go_wp2_with (fail)
            refine bodyPost_ret (results_B2 rfl rfl rfl hb9 strWr rfl) rfl ⟨?_, B0.out.1.trans (hk9.oneB B0.out.1.size (Nat.le_refl _))⟩
            rw [E.out]
            simp [fstT]
      · have F : fst (s.drop p) = if sign s[p] then some ⟨4, 0, [s[p]], 1⟩ else none := by rw [hd]; exact fst_other g1 g2 g3
        have h1 : List.take 1 (List.drop p s) = [s[p]] := by rw [hd]; rfl
        have j0 : ((s[p].toNat : Int) == 34) = false := by rw [beq_eq_false_iff_ne]; omega
        have CX := Lib.hid (fun w' => c_ref09_sign s[p] w')
        have hcs : s[p].toNat < 48 ∨ (57 < s[p].toNat ∧ s[p].toNat < 97) ∨ 122 < s[p].toNat := by omega
        clear g1 g2 g3 hd
        cases hsg : sign s[p]
        case true =>
          rw [hsg] at F CX
          have E := Lib.hid (congrArg (fun o => fstT o p p) F)
          clear F hsg
          rcases hcs with g | g | g
          · have j1 : decide ((97 : Int) ≤ (s[p].toNat : Int)) = false := by rw [decide_eq_false_iff_not]; omega
            have j2 : decide ((48 : Int) ≤ (s[p].toNat : Int)) = false := by rw [decide_eq_false_iff_not]; omega
            clear g
            go_enter Try.func15, Try.ntmps15
            go_wp2_with (fail)
            refine (CX.out _).mono ?_
            rintro e w1 ⟨rfl, hb1⟩
            replace B0 := Lib.hid (B0.out.step hb1)
            clear hb1
            go_wp2_with (with_reducible refine stop_store 49 (.tmp 4) (.tmp 89) rfl rfl ?_)
            refine Stop.mk (wpList_storeB rfl _ _ _ rfl w.heap.size _ rfl rfl _ B0.out.2 strWr rfl rfl (by simp [Value.oneCell']) ?_)
            intro w9 hb9 hk9
            go_wp2_with (fail)
            refine bodyPost_ret (results_B2 rfl rfl rfl hb9 strWr rfl) rfl ⟨?_, B0.out.1.trans (hk9.oneB B0.out.1.size (Nat.le_refl _))⟩
            rw [E.out]
            simp [fstT]
          · have j1 : decide ((97 : Int) ≤ (s[p].toNat : Int)) = false := by rw [decide_eq_false_iff_not]; omega
            have j2 : decide ((48 : Int) ≤ (s[p].toNat : Int)) = true := by rw [decide_eq_true_iff]; omega
            have j3 : decide ((s[p].toNat : Int) ≤ 57) = false := by rw [decide_eq_false_iff_not]; omega
            clear g
            go_enter Try.func15, Try.ntmps15
            go_wp2_with (fail)
            refine (CX.out _).mono ?_
            rintro e w1 ⟨rfl, hb1⟩
            replace B0 := Lib.hid (B0.out.step hb1)
            clear hb1
            go_wp2_with (with_reducible refine stop_store 49 (.tmp 4) (.tmp 89) rfl rfl ?_)
            refine Stop.mk (wpList_storeB rfl _ _ _ rfl w.heap.size _ rfl rfl _ B0.out.2 strWr rfl rfl (by simp [Value.oneCell']) ?_)
            intro w9 hb9 hk9
            go_wp2_with (fail)
            refine bodyPost_ret (results_B2 rfl rfl rfl hb9 strWr rfl) rfl ⟨?_, B0.out.1.trans (hk9.oneB B0.out.1.size (Nat.le_refl _))⟩
            rw [E.out]
            simp [fstT]
          · have j1 : decide ((97 : Int) ≤ (s[p].toNat : Int)) = true := by rw [decide_eq_true_iff]; omega
            have j2 : decide ((48 : Int) ≤ (s[p].toNat : Int)) = true := by rw [decide_eq_true_iff]; omega
            have j3 : decide ((s[p].toNat : Int) ≤ 122) = false := by rw [decide_eq_false_iff_not]; omega
            have j4 : decide ((s[p].toNat : Int) ≤ 57) = false := by rw [decide_eq_false_iff_not]; omega
            clear g
            go_enter Try.func15, Try.ntmps15
            go_wp2_with (fail)
            refine (CX.out _).mono ?_
            rintro e w1 ⟨rfl, hb1⟩
            replace B0 := Lib.hid (B0.out.step hb1)
            clear hb1
            go_wp2_with (with_reducible refine stop_store 49 (.tmp 4) (.tmp 89) rfl rfl ?_)
            refine Stop.mk (wpList_storeB rfl _ _ _ rfl w.heap.size _ rfl rfl _ B0.out.2 strWr rfl rfl (by simp [Value.oneCell']) ?_)
            intro w9 hb9 hk9
            go_wp2_with (fail)
            refine bodyPost_ret (results_B2 rfl rfl rfl hb9 strWr rfl) rfl ⟨?_, B0.out.1.trans (hk9.oneB B0.out.1.size (Nat.le_refl _))⟩
            rw [E.out]
            simp [fstT]
        case false =>
          rw [hsg] at F CX
          have E := Lib.hid (congrArg (fun o => fstT o p p) F)
          clear F hsg
          rcases hcs with g | g | g
          · have j1 : decide ((97 : Int) ≤ (s[p].toNat : Int)) = false := by rw [decide_eq_false_iff_not]; omega
            have j2 : decide ((48 : Int) ≤ (s[p].toNat : Int)) = false := by rw [decide_eq_false_iff_not]; omega
            clear g
            go_enter Try.func15, Try.ntmps15
            go_wp2_with (fail)
            refine (CX.out _).mono ?_
            rintro e w1 ⟨rfl, hb1⟩
            replace B0 := Lib.hid (B0.out.step hb1)
            clear hb1
            go_wp2_with (with_reducible refine stop_store 49 (.tmp 4) (.tmp 92) rfl rfl ?_)
            refine Stop.mk (wpList_storeB rfl _ _ _ rfl w.heap.size _ rfl rfl _ B0.out.2 strWr rfl rfl (by simp [Value.oneCell']) ?_)
            intro w9 hb9 hk9
            go_wp2_with (fail)
            refine bodyPost_ret (results_B2 rfl rfl rfl hb9 strWr rfl) rfl ⟨?_, B0.out.1.trans (hk9.oneB B0.out.1.size (Nat.le_refl _))⟩
            rw [E.out]
            simp [fstT]
          · have j1 : decide ((97 : Int) ≤ (s[p].toNat : Int)) = false := by rw [decide_eq_false_iff_not]; omega
            have j2 : decide ((48 : Int) ≤ (s[p].toNat : Int)) = true := by rw [decide_eq_true_iff]; omega
            have j3 : decide ((s[p].toNat : Int) ≤ 57) = false := by rw [decide_eq_false_iff_not]; omega
            clear g
            go_enter Try.func15, Try.ntmps15
            go_wp2_with (fail)
            refine (CX.out _).mono ?_
            rintro e w1 ⟨rfl, hb1⟩
            replace B0 := Lib.hid (B0.out.step hb1)
            clear hb1
            go_wp2_with (with_reducible refine stop_store 49 (.tmp 4) (.tmp 92) rfl rfl ?_)
            refine Stop.mk (wpList_storeB rfl _ _ _ rfl w.heap.size _ rfl rfl _ B0.out.2 strWr rfl rfl (by simp [Value.oneCell']) ?_)
            intro w9 hb9 hk9
            go_wp2_with (fail)
            refine bodyPost_ret (results_B2 rfl rfl rfl hb9 strWr rfl) rfl ⟨?_, B0.out.1.trans (hk9.oneB B0.out.1.size (Nat.le_refl _))⟩
            rw [E.out]
            simp [fstT]
          · have j1 : decide ((97 : Int) ≤ (s[p].toNat : Int)) = true := by rw [decide_eq_true_iff]; omega
            have j2 : decide ((48 : Int) ≤ (s[p].toNat : Int)) = true := by rw [decide_eq_true_iff]; omega
            have j3 : decide ((s[p].toNat : Int) ≤ 122) = false := by rw [decide_eq_false_iff_not]; omega
            have j4 : decide ((s[p].toNat : Int) ≤ 57) = false := by rw [decide_eq_false_iff_not]; omega
            clear g
            go_enter Try.func15, Try.ntmps15
            go_wp2_with (fail)
            refine (CX.out _).mono ?_
            rintro e w1 ⟨rfl, hb1⟩
            replace B0 := Lib.hid (B0.out.step hb1)
            clear hb1
            go_wp2_with (with_reducible refine stop_store 49 (.tmp 4) (.tmp 92) rfl rfl ?_)
            refine Stop.mk (wpList_storeB rfl _ _ _ rfl w.heap.size _ rfl rfl _ B0.out.2 strWr rfl rfl (by simp [Value.oneCell']) ?_)
            intro w9 hb9 hk9
            go_wp2_with (fail)
            refine bodyPost_ret (results_B2 rfl rfl rfl hb9 strWr rfl) rfl ⟨?_, B0.out.1.trans (hk9.oneB B0.out.1.size (Nat.le_refl _))⟩
            rw [E.out]
            simp [fstT]
end Go.Proofs.Ytfgjhgecmelccaa
namespace Go.Proofs.Ytfgjhgecmelccaa
open Go.RowKit

theorem elemWr : Elem Try.prog 27 49 4 40 := Elem.mk' (z := .agg (wdA 0 0 0 [])) Try.underlying27 (by kernel_rfl) rfl (by omega) (by omega)
set_option maxHeartbeats 400000 in
theorem ref09_All_long (s : List UInt8) (w : World) (h : 1000 < s.length) (hs : s.length ≤ 9223372036854775807) : Calls Try.prog 7 #[.string (str s)] w (RetAll 49 w s) := by
  have d1 : decide ((1000 : Int) < (s.length : Int)) = true := by rw [decide_eq_true_iff]; omega
  go_enter Try.func7, Try.ntmps7
  go_wp2_with (fail)
  go_ret3
  exact ⟨(by repeat (first | exact Below.refl _ _ | refine Below.drew ?_ | refine Below.alloc ?_ (by first | omega | (simp; done) | (simp; omega)) _ | refine Below.setCell ?_ (by first | omega | (simp; done) | (simp; omega)) _ | refine Below.trans ?_ (Below.mono (by assumption) (by first | omega | (simp; done) | (simp; omega))))), .inl ⟨h, rfl⟩⟩
set_option maxHeartbeats 4000000 in
set_option maxRecDepth 4000 in
theorem ref09_All_in (s : List UInt8) (w : World) (hs : s.length ≤ 1000) : Calls Try.prog 7 #[.string (str s)] w (RetAll 49 w s) := by
  have d1 : decide ((1000 : Int) < (s.length : Int)) = false := by rw [decide_eq_false_iff_not]; omega
  go_enter Try.func7, Try.ntmps7
  go_wp2_with (fail)
  go_loopw [5, 6] (fun v i wr => ∃ (k : Nat) (acc : List Wd) (v0 : Value), v = v0 ∧ i = .int .i64 k ∧ Hid (LexAt s acc k) ∧ Hid (wr.ownsRow w.heap.size 49 4 v acc.length (acc.flatMap Wd.cells)) ∧ Hid (Below w.heap.size w wr))
    (fun _ i _ => s.length - (intOf i).toNat)
  case atStart => exact ⟨0, [], _, rfl, rfl, LexAt.start s, World.ownsRow_lit w #[] 0 (Nat.le_refl _) (by unfold maxLen; omega) (by simp), (by repeat (first | exact Below.refl _ _ | refine Below.drew ?_ | refine Below.alloc ?_ (by first | omega | (simp; done) | (simp; omega)) _ | refine Below.setCell ?_ (by first | omega | (simp; done) | (simp; omega)) _ | refine Below.trans ?_ (Below.mono (by assumption) (by first | omega | (simp; done) | (simp; omega)))))⟩
  case round =>
    obtain ⟨k, acc, v0, rfl, rfl, H, O, B1⟩ := hrel
    obtain ⟨A9, c9, rfl, -, -⟩ := own_form O.out
    have hz := B1.out.size
    have hkl := H.out.2.1
    have hal := H.out.2.2
    by_cases hlt : k < s.length
    · have dl : decide (k < s.length) = true := by simpa using hlt
      by_cases g1 : s[k].toNat = 32
      · have j1 : ((s[k].toNat : Int) == 32) = true := by rw [beq_iff_eq]; omega
        have H2 := Lib.hid (H.out.blank hlt g1)
        clear H g1
        go_wp2_with (fail)
        go_roundw
        case rel => exact ⟨k + 1, acc, _, rfl, by go_num, H2.out, O.out, B1.out⟩
        case measure => simp [intOf]; omega
      · have j1 : ((s[k].toNat : Int) == 32) = false := by rw [beq_eq_false_iff_ne]; omega
        have HC := Lib.hid g1
        clear g1
        have CF := Lib.hid (fun w' => c_ref09_one s k w' hs hlt)
        cases hf : fst (s.drop k) with
        | none =>
          rw [hf] at CF
          have H2 := Lib.hid (H.out.bad hlt HC.out hf)
          clear hf H
          go_wp2_with (fail)
          refine (CF.out _).mono ?_
          rintro e w1 ⟨rfl, hb1⟩
          replace B1 := Lib.hid (B1.out.trans (hb1.mono hz))
          clear hb1 hz
          unfold fstT
          go_wp2_with (with_reducible refine stop_store 49 (.tmp 7) (.tmp 27) rfl rfl ?_)
          refine Stop.mk (wpList_storeB rfl _ _ _ rfl w1.heap.size (wdA 0 0 0 []) rfl rfl _ (Blk.new _ _ _) strWr rfl rfl (by simp [Value.oneCell']) ?_)
          intro w3 hb3 hk3
          replace B1 := Lib.hid (B1.out.trans ((fresh_below hk3).mono B1.out.size))
          clear hb3 hk3
          go_wp2_with (fail)
          go_ret3
          exact ⟨B1.out, .inr ⟨hs, .inl ⟨k, H2.out, rfl⟩⟩⟩
        | some x =>
          rw [hf] at CF
          have H2 := Lib.hid (H.out.word hlt HC.out hf)
          have hl0 := H2.out.2.1
          have hl1 := H2.out.2.2
          obtain ⟨xk, xn, xs, xl⟩ := x
          have hl0' : 0 < xl := hl0
          have hl1' : k + xl ≤ s.length := hl1
          have j2 : ((k : Int) + (xl : Int) == 0) = false := by rw [beq_eq_false_iff_ne]; omega
          clear hf H hl0 hl1
          go_wp2_with (fail)
          refine (CF.out _).mono ?_
          rintro e w1 ⟨rfl, hb1⟩
          replace O := Lib.hid (own_below O.out hb1)
          replace B1 := Lib.hid (B1.out.trans (hb1.mono hz))
          clear hb1 hz
          unfold fstT
          go_wp2_with (with_reducible refine stop_store 49 (.tmp 7) (.tmp 27) rfl rfl ?_)
          refine Stop.mk (wpList_storeB rfl _ _ _ rfl w1.heap.size (wdA xk xn k xs) rfl rfl _ (Blk.new _ _ _) strWr rfl rfl (by simp [Value.oneCell']) ?_)
          intro w3 hb3 hk3
          replace O := Lib.hid (own_below O.out (fresh_below hk3))
          replace B1 := Lib.hid (B1.out.trans ((fresh_below hk3).mono B1.out.size))
          obtain ⟨p, hp⟩ : ∃ p, p = w1.heap.size := ⟨_, rfl⟩
          rw [← hp] at hb3 ⊢
          have BP := Lib.hid hb3
          clear hb3 hk3 hp
          go_wp2_with (with_reducible refine stop_load 49 (.tmp 7) rfl rfl ?_)
          refine Stop.mk (wpList_loadB rfl _ _ rfl p rfl _ BP.out strWr rfl ?_)
          go_wp2_with ((at_builtin; refine Stop.out ?_))
          refine Stop.mk (wpList_app _ rfl _ _ elemWr rfl w.heap.size (.slice A9 acc.length c9) acc.length _ rfl (own_below O.out ((Below.refl _ _).alloc (Nat.le_refl _) _)) _ 1 1 (Wd.cells ⟨xk, xn, k, xs⟩) rfl (Src.new _ (Wd.cells ⟨xk, xn, k, xs⟩) _ 4 rfl) (by simpa using wds_one [⟨xk, xn, k, xs⟩]) (by omega) (by have := B1.out.size; simp at this ⊢; omega) ?_)
          intro v4 w4 own4 _ hb4 _
          have B4 := Lib.hid (B1.out.trans ((((Below.refl _ _).alloc B1.out.size _)).trans hb4))
          have O4 := Lib.hid (show w4.ownsRow w.heap.size 49 4 v4 ((acc ++ [(⟨xk, xn, k, xs⟩ : Wd)]).length) ((acc ++ [(⟨xk, xn, k, xs⟩ : Wd)]).flatMap Wd.cells) by simpa using own4)
          have H3 := Lib.hid H2.out.1
          clear own4 hb4
          go_wp2_with (fail)
          go_roundw
          case rel => exact ⟨k + xl, _, _, rfl, by go_num, H3.out, O4.out, B4.out⟩
          case measure => simp [intOf]; omega
    · have dl : decide (k < s.length) = false := by simpa using hlt
      obtain rfl : k = s.length := by omega
      have HD := Lib.hid H.out.done
      clear H hlt
      go_wp2_with (fail)
      go_ret3
      exact ⟨B1.out, .inr ⟨hs, .inr ⟨_, acc, HD.out, rfl, O.out⟩⟩⟩
theorem c_ref09_All (s : List UInt8) (w : World) (hs : s.length ≤ 9223372036854775807) : Calls Try.prog 7 #[.string (str s)] w (RetAll 49 w s) := by
  by_cases h : 1000 < s.length
  · exact ref09_All_long s w h hs
  · exact ref09_All_in s w (by omega)
end Go.Proofs.Ytfgjhgecmelccaa
