/-
  The walk of the reference's Read of chapter 4: a value off its text. (Printed by gen04i.py.)
-/
import Derived.Test.YtfgjhgecmelccaaLw10
import Derived.WalkKit
import Derived.WalkSpells
import Derived.WalkLawsBesides
import Derived.Lib.Hide
import Derived.Deep.QuietTactic
import Derived.BigQuiet
import Derived.Maps.AppendAt
import Derived.WalkSmall
import Derived.StillTail
import Derived.RangeFuncNested
import Derived.RangeFuncCalls
import Derived.OrdersIn
import Derived.ControlIn
import Derived.Test.YtfgjhgecmelccaaProg
import Derived.Deep.CutBlock
import Derived.Deep.DeepCutAuto
import Derived.Deep.AppendSrc
import Derived.Lib.AppendStr
import Derived.Laws.BytesArg
import Derived.WalkMore
import Derived.ScopeJumps
import Derived.Lib.Bytealg
import Derived.Laws.Externs
import Derived.Laws.IdiomStrings
import Derived.Outline
import Derived.IntWalk
import Derived.Laws.Tables
import Derived.Laws.Rows
import Derived.ChangeKeysEq
import Derived.Laws.StructEq
import Derived.RangeFuncBound
import Derived.RangeFuncLeaves
import Derived.OwnWalkIn
import Derived.LoopIn
import Derived.Shelf.Abstract
import Derived.Test.YtfgjhgecmelccaaRows
import Derived.ProofKit
import Derived.OpenShut
import Derived.JoinedCond
import Derived.Deep.Slices
import Derived.Deep.Fields
import Derived.Carry
namespace Go.Proofs.Ytfgjhgecmelccaa
open Go.RowKit

theorem opn_len : ∀ l : List UInt8, (opn l).length ≤ l.length := by
  intro l
  induction h : l.length using Nat.strongRecOn generalizing l with
  | _ n ih =>
    match l with
    | [] => rw [opn]; simp
    | [c] => rw [opn]; simp
    | c :: d :: r =>
      simp only [List.length_cons] at h
      rw [opn_two]
      split
      · have := ih (d :: r).length (by simp; omega) (d :: r) rfl
        simp at this ⊢; omega
      · match r with
        | [] => simp at h ⊢; omega
        | [a] =>
          simp only
          rw [opn_one]; simp at h ⊢; omega
        | a :: b :: r2 =>
          simp only
          simp only [List.length_cons] at h
          split
          · have := ih r2.length (by omega) r2 rfl
            simp at this ⊢; omega
          · have := ih (a :: b :: r2).length (by simp; omega) (a :: b :: r2) rfl
            simp at this ⊢; omega
set_option maxHeartbeats 2000000 in
set_option maxRecDepth 4000 in
theorem ref04_Read_num (t : List UInt8) (n : Nat) (w : World) (hb : t.length ≤ 1000000) (hi : intR t 1099511627776 = some n) : Calls Try.prog 34 #[.string (str t)] w (RetV w (valT t)) := by
  have CI := Lib.hid (fun w' => c_ref03_Int t 1099511627776 w' (by omega))
  rw [(intR_some hi).1, (intR_some hi).2] at CI
  have hV : candV t = ⟨1, (n : Int), []⟩ := by unfold candV; rw [hi]
  have RD := candV_read t
  rw [hV] at RD
  obtain ⟨SV, hSV⟩ : ∃ l, l = showV ⟨1, (n : Int), []⟩ := ⟨_, rfl⟩
  have CS := Lib.hid (fun w' => show Calls Try.prog 54 #[.agg (⟨1, (n : Int), []⟩ : Val).c3] w' (RetV w' (.string (str SV))) by rw [hSV]; exact c_ref04_Show ⟨1, (n : Int), []⟩ w' (by simp))
  rw [← hSV] at RD
  clear hSV hV
  clear hi
  by_cases he : SV = t
  · have j9 : (SV != t) = false := by simpa using he
    have j8 : (SV == t) = true := by simpa using he
    rw [if_pos he] at RD
    rw [valT_some RD]
    clear he RD
    go_enter Try.func34, Try.ntmps34
    have B := Lib.hid (At2.new w 57 57 vz.c3 vz.c3)
    go_wp2_with (fail)
    refine (CI.out _).mono ?_
    rintro e w1 ⟨rfl, hb1⟩
    replace B := Lib.hid (B.out.step hb1)
    clear hb1
    go_wp2_with (with_reducible refine stop_store 57 (.tmp 4) (.tmp 15) rfl rfl ?_)
    refine Stop.mk (wpList_storeB rfl _ _ _ rfl (w.heap.size + 1) ((⟨1, (n : Int), []⟩ : Val)).c3 (by first | rfl | simp) (by first | rfl | simp) _ B.out.2.2 strVl rfl rfl (by simp [Value.oneCell']) ?_)
    intro w3 hb3 hk3
    replace B := Lib.hid (show At2 w w3 vz.c3 ((⟨1, (n : Int), []⟩ : Val)).c3 from ⟨B.out.1.trans (hk3.oneB B.out.1.size (by omega)), B.out.2.1.kept hk3 B.out.2.1.lt (by simp), hb3⟩)
    clear hb3 hk3
    have v0 := B.out.2.2.cell (show (⟨1, (n : Int), []⟩ : Val).c3[0]? = _ from rfl)
    have v1 := B.out.2.2.cell (show (⟨1, (n : Int), []⟩ : Val).c3[1]? = _ from rfl)
    have v2 := B.out.2.2.cell (show (⟨1, (n : Int), []⟩ : Val).c3[2]? = _ from rfl)
    go_wp2_with (fail)
    refine (CS.out _).mono ?_
    rintro e w5 ⟨rfl, hb5⟩
    replace B := Lib.hid (B.out.step hb5)
    clear hb5 v0 v1 v2
    have v0 := B.out.2.2.cell (show (⟨1, (n : Int), []⟩ : Val).c3[0]? = _ from rfl)
    have v1 := B.out.2.2.cell (show (⟨1, (n : Int), []⟩ : Val).c3[1]? = _ from rfl)
    have v2 := B.out.2.2.cell (show (⟨1, (n : Int), []⟩ : Val).c3[2]? = _ from rfl)
    go_wp2_with (with_reducible refine stop_store 57 (.tmp 2) (.tmp 37) rfl rfl ?_)
    refine Stop.mk (wpList_storeB rfl _ _ _ rfl w.heap.size _ rfl rfl _ B.out.2.1 strVl rfl rfl (by simp [Value.oneCell']) ?_)
    intro w9 hb9 hk9
    go_wp2_with (fail)
    refine bodyPost_ret (results_B2 rfl rfl rfl hb9 strVl rfl) rfl ⟨?_, B.out.1.trans (hk9.oneB B.out.1.size (Nat.le_refl _))⟩
    rfl
  · have j9 : (SV != t) = true := by simpa using he
    have j8 : (SV == t) = false := by simpa using he
    rw [if_neg he] at RD
    rw [valT_none RD]
    clear he RD
    go_enter Try.func34, Try.ntmps34
    have B := Lib.hid (At2.new w 57 57 vz.c3 vz.c3)
    go_wp2_with (fail)
    refine (CI.out _).mono ?_
    rintro e w1 ⟨rfl, hb1⟩
    replace B := Lib.hid (B.out.step hb1)
    clear hb1
    go_wp2_with (with_reducible refine stop_store 57 (.tmp 4) (.tmp 15) rfl rfl ?_)
    refine Stop.mk (wpList_storeB rfl _ _ _ rfl (w.heap.size + 1) ((⟨1, (n : Int), []⟩ : Val)).c3 (by first | rfl | simp) (by first | rfl | simp) _ B.out.2.2 strVl rfl rfl (by simp [Value.oneCell']) ?_)
    intro w3 hb3 hk3
    replace B := Lib.hid (show At2 w w3 vz.c3 ((⟨1, (n : Int), []⟩ : Val)).c3 from ⟨B.out.1.trans (hk3.oneB B.out.1.size (by omega)), B.out.2.1.kept hk3 B.out.2.1.lt (by simp), hb3⟩)
    clear hb3 hk3
    have v0 := B.out.2.2.cell (show (⟨1, (n : Int), []⟩ : Val).c3[0]? = _ from rfl)
    have v1 := B.out.2.2.cell (show (⟨1, (n : Int), []⟩ : Val).c3[1]? = _ from rfl)
    have v2 := B.out.2.2.cell (show (⟨1, (n : Int), []⟩ : Val).c3[2]? = _ from rfl)
    go_wp2_with (fail)
    refine (CS.out _).mono ?_
    rintro e w5 ⟨rfl, hb5⟩
    replace B := Lib.hid (B.out.step hb5)
    clear hb5 v0 v1 v2
    go_wp2_with (with_reducible refine stop_store 57 (.tmp 2) (.tmp 36) rfl rfl ?_)
    refine Stop.mk (wpList_storeB rfl _ _ _ rfl w.heap.size _ rfl rfl _ B.out.2.1 strVl rfl rfl (by simp [Value.oneCell']) ?_)
    intro w9 hb9 hk9
    go_wp2_with (fail)
    refine bodyPost_ret (results_B2 rfl rfl rfl hb9 strVl rfl) rfl ⟨?_, B.out.1.trans (hk9.oneB B.out.1.size (Nat.le_refl _))⟩
    rfl
set_option maxHeartbeats 2000000 in
set_option maxRecDepth 4000 in
theorem ref04_Read_text (t : List UInt8) (w : World) (hi : intR t 1099511627776 = none) (h1 : 1 < t.length) (h2 : (t[0]'(by omega)).toNat = 34) (h3 : t.length ≤ 98) : Calls Try.prog 34 #[.string (str t)] w (RetV w (valT t)) := by
  have CI := Lib.hid (fun w' => c_ref03_Int t 1099511627776 w' (by omega))
  rw [(intR_none hi).1, (intR_none hi).2] at CI
  have h0 : 0 < t.length := by omega
  have hh : t.head? = some 34 := by rw [List.head?_eq_getElem?, List.getElem?_eq_getElem h0]; congr 1; exact u8_eq h2
  have hV0 : candV t = ⟨2, 0, opn (t.drop 1)⟩ := by unfold candV; rw [hi]; exact if_pos ⟨h1, hh, h3⟩
  obtain ⟨u, hu⟩ : ∃ u, u = opn (t.drop 1) := ⟨_, rfl⟩
  have CO := Lib.hid (fun w' => show Calls Try.prog 53 #[.string (str t)] w' (RetV w' (.string (str u))) by rw [hu]; exact c_ref04_open t w' (by omega) (by omega))
  have hul : u.length ≤ 9223372036854775807 := by rw [hu]; exact Nat.le_trans (opn_len _) (by rw [List.length_drop]; omega)
  have hV : candV t = ⟨2, 0, u⟩ := by rw [hV0, hu]
  clear hV0 hh hi hu
  have RD := candV_read t
  rw [hV] at RD
  obtain ⟨SV, hSV⟩ : ∃ l, l = showV ⟨2, 0, u⟩ := ⟨_, rfl⟩
  have CS := Lib.hid (fun w' => show Calls Try.prog 54 #[.agg (⟨2, 0, u⟩ : Val).c3] w' (RetV w' (.string (str SV))) by rw [hSV]; exact c_ref04_Show ⟨2, 0, u⟩ w' hul)
  rw [← hSV] at RD
  clear hSV hV
  have d1 : decide ((1 : Int) < (t.length : Int)) = true := by rw [decide_eq_true_iff]; omega
  have d2 : (((t[0]'h0).toNat : Int) == 34) = true := by rw [beq_iff_eq]; omega
  have d3 : decide ((t.length : Int) ≤ 98) = true := by rw [decide_eq_true_iff]; omega
  clear h2
  by_cases he : SV = t
  · have j9 : (SV != t) = false := by simpa using he
    have j8 : (SV == t) = true := by simpa using he
    rw [if_pos he] at RD
    rw [valT_some RD]
    clear he RD
    go_enter Try.func34, Try.ntmps34
    have B := Lib.hid (At2.new w 57 57 vz.c3 vz.c3)
    go_wp2_with (fail)
    refine (CI.out _).mono ?_
    rintro e w1 ⟨rfl, hb1⟩
    replace B := Lib.hid (B.out.step hb1)
    clear hb1
    go_wp2_with (fail)
    refine (CO.out _).mono ?_
    rintro e w2 ⟨rfl, hb2⟩
    replace B := Lib.hid (B.out.step hb2)
    clear hb2
    go_wp2_with (with_reducible refine stop_store 57 (.tmp 4) (.tmp 31) rfl rfl ?_)
    refine Stop.mk (wpList_storeB rfl _ _ _ rfl (w.heap.size + 1) ((⟨2, 0, u⟩ : Val)).c3 (by first | rfl | simp) (by first | rfl | simp) _ B.out.2.2 strVl rfl rfl (by simp [Value.oneCell']) ?_)
    intro w3 hb3 hk3
    replace B := Lib.hid (show At2 w w3 vz.c3 ((⟨2, 0, u⟩ : Val)).c3 from ⟨B.out.1.trans (hk3.oneB B.out.1.size (by omega)), B.out.2.1.kept hk3 B.out.2.1.lt (by simp), hb3⟩)
    clear hb3 hk3
    have v0 := B.out.2.2.cell (show (⟨2, 0, u⟩ : Val).c3[0]? = _ from rfl)
    have v1 := B.out.2.2.cell (show (⟨2, 0, u⟩ : Val).c3[1]? = _ from rfl)
    have v2 := B.out.2.2.cell (show (⟨2, 0, u⟩ : Val).c3[2]? = _ from rfl)
    go_wp2_with (fail)
    refine (CS.out _).mono ?_
    rintro e w5 ⟨rfl, hb5⟩
    replace B := Lib.hid (B.out.step hb5)
    clear hb5 v0 v1 v2
    have v0 := B.out.2.2.cell (show (⟨2, 0, u⟩ : Val).c3[0]? = _ from rfl)
    have v1 := B.out.2.2.cell (show (⟨2, 0, u⟩ : Val).c3[1]? = _ from rfl)
    have v2 := B.out.2.2.cell (show (⟨2, 0, u⟩ : Val).c3[2]? = _ from rfl)
    go_wp2_with (with_reducible refine stop_store 57 (.tmp 2) (.tmp 37) rfl rfl ?_)
    refine Stop.mk (wpList_storeB rfl _ _ _ rfl w.heap.size _ rfl rfl _ B.out.2.1 strVl rfl rfl (by simp [Value.oneCell']) ?_)
    intro w9 hb9 hk9
    go_wp2_with (fail)
    refine bodyPost_ret (results_B2 rfl rfl rfl hb9 strVl rfl) rfl ⟨?_, B.out.1.trans (hk9.oneB B.out.1.size (Nat.le_refl _))⟩
    rfl
  · have j9 : (SV != t) = true := by simpa using he
    have j8 : (SV == t) = false := by simpa using he
    rw [if_neg he] at RD
    rw [valT_none RD]
    clear he RD
    go_enter Try.func34, Try.ntmps34
    have B := Lib.hid (At2.new w 57 57 vz.c3 vz.c3)
    go_wp2_with (fail)
    refine (CI.out _).mono ?_
    rintro e w1 ⟨rfl, hb1⟩
    replace B := Lib.hid (B.out.step hb1)
    clear hb1
    go_wp2_with (fail)
    refine (CO.out _).mono ?_
    rintro e w2 ⟨rfl, hb2⟩
    replace B := Lib.hid (B.out.step hb2)
    clear hb2
    go_wp2_with (with_reducible refine stop_store 57 (.tmp 4) (.tmp 31) rfl rfl ?_)
    refine Stop.mk (wpList_storeB rfl _ _ _ rfl (w.heap.size + 1) ((⟨2, 0, u⟩ : Val)).c3 (by first | rfl | simp) (by first | rfl | simp) _ B.out.2.2 strVl rfl rfl (by simp [Value.oneCell']) ?_)
    intro w3 hb3 hk3
    replace B := Lib.hid (show At2 w w3 vz.c3 ((⟨2, 0, u⟩ : Val)).c3 from ⟨B.out.1.trans (hk3.oneB B.out.1.size (by omega)), B.out.2.1.kept hk3 B.out.2.1.lt (by simp), hb3⟩)
    clear hb3 hk3
    have v0 := B.out.2.2.cell (show (⟨2, 0, u⟩ : Val).c3[0]? = _ from rfl)
    have v1 := B.out.2.2.cell (show (⟨2, 0, u⟩ : Val).c3[1]? = _ from rfl)
    have v2 := B.out.2.2.cell (show (⟨2, 0, u⟩ : Val).c3[2]? = _ from rfl)
    go_wp2_with (fail)
    refine (CS.out _).mono ?_
    rintro e w5 ⟨rfl, hb5⟩
    replace B := Lib.hid (B.out.step hb5)
    clear hb5 v0 v1 v2
    go_wp2_with (with_reducible refine stop_store 57 (.tmp 2) (.tmp 36) rfl rfl ?_)
    refine Stop.mk (wpList_storeB rfl _ _ _ rfl w.heap.size _ rfl rfl _ B.out.2.1 strVl rfl rfl (by simp [Value.oneCell']) ?_)
    intro w9 hb9 hk9
    go_wp2_with (fail)
    refine bodyPost_ret (results_B2 rfl rfl rfl hb9 strVl rfl) rfl ⟨?_, B.out.1.trans (hk9.oneB B.out.1.size (Nat.le_refl _))⟩
    rfl
set_option maxHeartbeats 2000000 in
set_option maxRecDepth 4000 in
theorem ref04_Read_short (t : List UInt8) (w : World) (hb : t.length ≤ 1000000) (hi : intR t 1099511627776 = none) (h : t.length ≤ 1) (hV : candV t = vz) : Calls Try.prog 34 #[.string (str t)] w (RetV w (valT t)) := by
  have CI := Lib.hid (fun w' => c_ref03_Int t 1099511627776 w' (by omega))
  rw [(intR_none hi).1, (intR_none hi).2] at CI
  have RD := candV_read t
  rw [hV] at RD
  obtain ⟨SV, hSV⟩ : ∃ l, l = showV vz := ⟨_, rfl⟩
  have CS := Lib.hid (fun w' => show Calls Try.prog 54 #[.agg (vz : Val).c3] w' (RetV w' (.string (str SV))) by rw [hSV]; exact c_ref04_Show vz w' (by simp))
  rw [← hSV] at RD
  clear hSV hV
  clear hi
  have d1 : decide ((1 : Int) < (t.length : Int)) = false := by rw [decide_eq_false_iff_not]; omega
  by_cases he : SV = t
  · have j9 : (SV != t) = false := by simpa using he
    have j8 : (SV == t) = true := by simpa using he
    rw [if_pos he] at RD
    rw [valT_some RD]
    clear he RD
    go_enter Try.func34, Try.ntmps34
    have B := Lib.hid (At2.new w 57 57 vz.c3 vz.c3)
    go_wp2_with (fail)
    refine (CI.out _).mono ?_
    rintro e w1 ⟨rfl, hb1⟩
    replace B := Lib.hid (B.out.step hb1)
    clear hb1
    have v0 := B.out.2.2.cell (show (vz : Val).c3[0]? = _ from rfl)
    have v1 := B.out.2.2.cell (show (vz : Val).c3[1]? = _ from rfl)
    have v2 := B.out.2.2.cell (show (vz : Val).c3[2]? = _ from rfl)
    go_wp2_with (fail)
    refine (CS.out _).mono ?_
    rintro e w5 ⟨rfl, hb5⟩
    replace B := Lib.hid (B.out.step hb5)
    clear hb5 v0 v1 v2
    have v0 := B.out.2.2.cell (show (vz : Val).c3[0]? = _ from rfl)
    have v1 := B.out.2.2.cell (show (vz : Val).c3[1]? = _ from rfl)
    have v2 := B.out.2.2.cell (show (vz : Val).c3[2]? = _ from rfl)
    go_wp2_with (with_reducible refine stop_store 57 (.tmp 2) (.tmp 37) rfl rfl ?_)
    refine Stop.mk (wpList_storeB rfl _ _ _ rfl w.heap.size _ rfl rfl _ B.out.2.1 strVl rfl rfl (by simp [Value.oneCell']) ?_)
    intro w9 hb9 hk9
    go_wp2_with (fail)
    refine bodyPost_ret (results_B2 rfl rfl rfl hb9 strVl rfl) rfl ⟨?_, B.out.1.trans (hk9.oneB B.out.1.size (Nat.le_refl _))⟩
    rfl
  · have j9 : (SV != t) = true := by simpa using he
    have j8 : (SV == t) = false := by simpa using he
    rw [if_neg he] at RD
    rw [valT_none RD]
    clear he RD
    go_enter Try.func34, Try.ntmps34
    have B := Lib.hid (At2.new w 57 57 vz.c3 vz.c3)
    go_wp2_with (fail)
    refine (CI.out _).mono ?_
    rintro e w1 ⟨rfl, hb1⟩
    replace B := Lib.hid (B.out.step hb1)
    clear hb1
    have v0 := B.out.2.2.cell (show (vz : Val).c3[0]? = _ from rfl)
    have v1 := B.out.2.2.cell (show (vz : Val).c3[1]? = _ from rfl)
    have v2 := B.out.2.2.cell (show (vz : Val).c3[2]? = _ from rfl)
    go_wp2_with (fail)
    refine (CS.out _).mono ?_
    rintro e w5 ⟨rfl, hb5⟩
    replace B := Lib.hid (B.out.step hb5)
    clear hb5 v0 v1 v2
    go_wp2_with (with_reducible refine stop_store 57 (.tmp 2) (.tmp 36) rfl rfl ?_)
    refine Stop.mk (wpList_storeB rfl _ _ _ rfl w.heap.size _ rfl rfl _ B.out.2.1 strVl rfl rfl (by simp [Value.oneCell']) ?_)
    intro w9 hb9 hk9
    go_wp2_with (fail)
    refine bodyPost_ret (results_B2 rfl rfl rfl hb9 strVl rfl) rfl ⟨?_, B.out.1.trans (hk9.oneB B.out.1.size (Nat.le_refl _))⟩
    rfl
set_option maxHeartbeats 2000000 in
set_option maxRecDepth 4000 in
theorem ref04_Read_head (t : List UInt8) (w : World) (hb : t.length ≤ 1000000) (hi : intR t 1099511627776 = none) (h1 : 1 < t.length) (h2 : (t[0]'(by omega)).toNat ≠ 34) (hV : candV t = vz) : Calls Try.prog 34 #[.string (str t)] w (RetV w (valT t)) := by
  have CI := Lib.hid (fun w' => c_ref03_Int t 1099511627776 w' (by omega))
  rw [(intR_none hi).1, (intR_none hi).2] at CI
  have RD := candV_read t
  rw [hV] at RD
  obtain ⟨SV, hSV⟩ : ∃ l, l = showV vz := ⟨_, rfl⟩
  have CS := Lib.hid (fun w' => show Calls Try.prog 54 #[.agg (vz : Val).c3] w' (RetV w' (.string (str SV))) by rw [hSV]; exact c_ref04_Show vz w' (by simp))
  rw [← hSV] at RD
  clear hSV hV
  clear hi
  have h0 : 0 < t.length := by omega
  have d1 : decide ((1 : Int) < (t.length : Int)) = true := by rw [decide_eq_true_iff]; omega
  have d2 : (((t[0]'h0).toNat : Int) == 34) = false := by rw [beq_eq_false_iff_ne]; omega
  clear h2
  by_cases he : SV = t
  · have j9 : (SV != t) = false := by simpa using he
    have j8 : (SV == t) = true := by simpa using he
    rw [if_pos he] at RD
    rw [valT_some RD]
    clear he RD
    go_enter Try.func34, Try.ntmps34
    have B := Lib.hid (At2.new w 57 57 vz.c3 vz.c3)
    go_wp2_with (fail)
    refine (CI.out _).mono ?_
    rintro e w1 ⟨rfl, hb1⟩
    replace B := Lib.hid (B.out.step hb1)
    clear hb1
    have v0 := B.out.2.2.cell (show (vz : Val).c3[0]? = _ from rfl)
    have v1 := B.out.2.2.cell (show (vz : Val).c3[1]? = _ from rfl)
    have v2 := B.out.2.2.cell (show (vz : Val).c3[2]? = _ from rfl)
    go_wp2_with (fail)
    refine (CS.out _).mono ?_
    rintro e w5 ⟨rfl, hb5⟩
    replace B := Lib.hid (B.out.step hb5)
    clear hb5 v0 v1 v2
    have v0 := B.out.2.2.cell (show (vz : Val).c3[0]? = _ from rfl)
    have v1 := B.out.2.2.cell (show (vz : Val).c3[1]? = _ from rfl)
    have v2 := B.out.2.2.cell (show (vz : Val).c3[2]? = _ from rfl)
    go_wp2_with (with_reducible refine stop_store 57 (.tmp 2) (.tmp 37) rfl rfl ?_)
    refine Stop.mk (wpList_storeB rfl _ _ _ rfl w.heap.size _ rfl rfl _ B.out.2.1 strVl rfl rfl (by simp [Value.oneCell']) ?_)
    intro w9 hb9 hk9
    go_wp2_with (fail)
    refine bodyPost_ret (results_B2 rfl rfl rfl hb9 strVl rfl) rfl ⟨?_, B.out.1.trans (hk9.oneB B.out.1.size (Nat.le_refl _))⟩
    rfl
  · have j9 : (SV != t) = true := by simpa using he
    have j8 : (SV == t) = false := by simpa using he
    rw [if_neg he] at RD
    rw [valT_none RD]
    clear he RD
    go_enter Try.func34, Try.ntmps34
    have B := Lib.hid (At2.new w 57 57 vz.c3 vz.c3)
    go_wp2_with (fail)
    refine (CI.out _).mono ?_
    rintro e w1 ⟨rfl, hb1⟩
    replace B := Lib.hid (B.out.step hb1)
    clear hb1
    have v0 := B.out.2.2.cell (show (vz : Val).c3[0]? = _ from rfl)
    have v1 := B.out.2.2.cell (show (vz : Val).c3[1]? = _ from rfl)
    have v2 := B.out.2.2.cell (show (vz : Val).c3[2]? = _ from rfl)
    go_wp2_with (fail)
    refine (CS.out _).mono ?_
    rintro e w5 ⟨rfl, hb5⟩
    replace B := Lib.hid (B.out.step hb5)
    clear hb5 v0 v1 v2
    go_wp2_with (with_reducible refine stop_store 57 (.tmp 2) (.tmp 36) rfl rfl ?_)
    refine Stop.mk (wpList_storeB rfl _ _ _ rfl w.heap.size _ rfl rfl _ B.out.2.1 strVl rfl rfl (by simp [Value.oneCell']) ?_)
    intro w9 hb9 hk9
    go_wp2_with (fail)
    refine bodyPost_ret (results_B2 rfl rfl rfl hb9 strVl rfl) rfl ⟨?_, B.out.1.trans (hk9.oneB B.out.1.size (Nat.le_refl _))⟩
    rfl
set_option maxHeartbeats 2000000 in
set_option maxRecDepth 4000 in
theorem ref04_Read_long (t : List UInt8) (w : World) (hb : t.length ≤ 1000000) (hi : intR t 1099511627776 = none) (h1 : 1 < t.length) (h2 : (t[0]'(by omega)).toNat = 34) (h3 : 98 < t.length) (hV : candV t = vz) : Calls Try.prog 34 #[.string (str t)] w (RetV w (valT t)) := by
  have CI := Lib.hid (fun w' => c_ref03_Int t 1099511627776 w' (by omega))
  rw [(intR_none hi).1, (intR_none hi).2] at CI
  have RD := candV_read t
  rw [hV] at RD
  obtain ⟨SV, hSV⟩ : ∃ l, l = showV vz := ⟨_, rfl⟩
  have CS := Lib.hid (fun w' => show Calls Try.prog 54 #[.agg (vz : Val).c3] w' (RetV w' (.string (str SV))) by rw [hSV]; exact c_ref04_Show vz w' (by simp))
  rw [← hSV] at RD
  clear hSV hV
  clear hi
  have h0 : 0 < t.length := by omega
  have d1 : decide ((1 : Int) < (t.length : Int)) = true := by rw [decide_eq_true_iff]; omega
  have d2 : (((t[0]'h0).toNat : Int) == 34) = true := by rw [beq_iff_eq]; omega
  have d3 : decide ((t.length : Int) ≤ 98) = false := by rw [decide_eq_false_iff_not]; omega
  clear h2
  by_cases he : SV = t
  · have j9 : (SV != t) = false := by simpa using he
    have j8 : (SV == t) = true := by simpa using he
    rw [if_pos he] at RD
    rw [valT_some RD]
    clear he RD
    go_enter Try.func34, Try.ntmps34
    have B := Lib.hid (At2.new w 57 57 vz.c3 vz.c3)
    go_wp2_with (fail)
    refine (CI.out _).mono ?_
    rintro e w1 ⟨rfl, hb1⟩
    replace B := Lib.hid (B.out.step hb1)
    clear hb1
    have v0 := B.out.2.2.cell (show (vz : Val).c3[0]? = _ from rfl)
    have v1 := B.out.2.2.cell (show (vz : Val).c3[1]? = _ from rfl)
    have v2 := B.out.2.2.cell (show (vz : Val).c3[2]? = _ from rfl)
    go_wp2_with (fail)
    refine (CS.out _).mono ?_
    rintro e w5 ⟨rfl, hb5⟩
    replace B := Lib.hid (B.out.step hb5)
    clear hb5 v0 v1 v2
    have v0 := B.out.2.2.cell (show (vz : Val).c3[0]? = _ from rfl)
    have v1 := B.out.2.2.cell (show (vz : Val).c3[1]? = _ from rfl)
    have v2 := B.out.2.2.cell (show (vz : Val).c3[2]? = _ from rfl)
    go_wp2_with (with_reducible refine stop_store 57 (.tmp 2) (.tmp 37) rfl rfl ?_)
    refine Stop.mk (wpList_storeB rfl _ _ _ rfl w.heap.size _ rfl rfl _ B.out.2.1 strVl rfl rfl (by simp [Value.oneCell']) ?_)
    intro w9 hb9 hk9
    go_wp2_with (fail)
    refine bodyPost_ret (results_B2 rfl rfl rfl hb9 strVl rfl) rfl ⟨?_, B.out.1.trans (hk9.oneB B.out.1.size (Nat.le_refl _))⟩
    rfl
  · have j9 : (SV != t) = true := by simpa using he
    have j8 : (SV == t) = false := by simpa using he
    rw [if_neg he] at RD
    rw [valT_none RD]
    clear he RD
    go_enter Try.func34, Try.ntmps34
    have B := Lib.hid (At2.new w 57 57 vz.c3 vz.c3)
    go_wp2_with (fail)
    refine (CI.out _).mono ?_
    rintro e w1 ⟨rfl, hb1⟩
    replace B := Lib.hid (B.out.step hb1)
    clear hb1
    have v0 := B.out.2.2.cell (show (vz : Val).c3[0]? = _ from rfl)
    have v1 := B.out.2.2.cell (show (vz : Val).c3[1]? = _ from rfl)
    have v2 := B.out.2.2.cell (show (vz : Val).c3[2]? = _ from rfl)
    go_wp2_with (fail)
    refine (CS.out _).mono ?_
    rintro e w5 ⟨rfl, hb5⟩
    replace B := Lib.hid (B.out.step hb5)
    clear hb5 v0 v1 v2
    go_wp2_with (with_reducible refine stop_store 57 (.tmp 2) (.tmp 36) rfl rfl ?_)
    refine Stop.mk (wpList_storeB rfl _ _ _ rfl w.heap.size _ rfl rfl _ B.out.2.1 strVl rfl rfl (by simp [Value.oneCell']) ?_)
    intro w9 hb9 hk9
    go_wp2_with (fail)
    refine bodyPost_ret (results_B2 rfl rfl rfl hb9 strVl rfl) rfl ⟨?_, B.out.1.trans (hk9.oneB B.out.1.size (Nat.le_refl _))⟩
    rfl
theorem c_ref04_Read (t : List UInt8) (w : World) (hb : t.length ≤ 1000000) : Calls Try.prog 34 #[.string (str t)] w (RetV w (valT t)) := by
  cases hi : intR t 1099511627776 with
  | some n => exact ref04_Read_num t n w hb hi
  | none =>
    by_cases h1 : 1 < t.length
    · by_cases h2 : (t[0]'(by omega)).toNat = 34
      · by_cases h3 : t.length ≤ 98
        · exact ref04_Read_text t w hi h1 h2 h3
        · exact ref04_Read_long t w hb hi h1 h2 (by omega) (by unfold candV; rw [hi]; exact if_neg (fun h => h3 h.2.2))
      · exact ref04_Read_head t w hb hi h1 h2 (by
          unfold candV; rw [hi]
          refine if_neg (fun h => h2 ?_)
          have h4 := h.2.1
          rw [List.head?_eq_getElem?, List.getElem?_eq_getElem (by omega)] at h4
          injection h4 with h4
          rw [h4]; rfl)
    · exact ref04_Read_short t w hb hi (by omega) (by unfold candV; rw [hi]; exact if_neg (fun h => h1 h.1))
end Go.Proofs.Ytfgjhgecmelccaa
