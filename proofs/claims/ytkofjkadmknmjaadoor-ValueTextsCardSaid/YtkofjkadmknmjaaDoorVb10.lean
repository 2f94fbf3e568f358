/-
  Lemmas (walks and plain laws), in one text.
-/
import Derived.Test.YtkofjkadmknmjaaDoorVb9
import Derived.Test.YtkofjkadmknmjaaDoorRows
import Derived.WalkKit
import Derived.WalkSpells
import Derived.WalkLawsBesides
import Derived.Lib.Hide
import Derived.Deep.QuietTactic
import Derived.BigQuiet
import Derived.Maps.AppendAt
import Derived.WalkSmall
import Derived.ProofKit
import Derived.OpenShut
import Derived.JoinedCond
import Derived.Deep.Slices
import Derived.Deep.Fields
import Derived.Carry
import Derived.Shelf.Small.Wraps
import Derived.Shelf.Utf8.RuneCount
import Derived.Shelf.Strconv.Itoa0
import Derived.Shelf.Strconv.Itoa1
import Derived.Shelf.LaysM
import Derived.Shelf.Strconv.Itoa2
import Derived.Shelf.Strconv.Itoa3
import Derived.Shelf.Strings.Search1
import Derived.Shelf.Strings.Search2
import Derived.Shelf.Strings.Search3
import Derived.Shelf.Strings.Count
import Derived.Shelf.Strings.Shaped
import Derived.Shelf.Strings.Prefix
import Derived.Shelf.Strings.Split
import Derived.Shelf.Strings.SplitShaped
import Derived.Shelf.Unicode.DecodeSlow
import Derived.Test.YtkofjkadmknmjaaDoorProg
import Derived.Deep.AppendSrc
import Derived.Lib.AppendStr
import Derived.Laws.BytesArg
import Derived.Lib.AppendIntMem
import Derived.Lib.ItoaLen
import Derived.Test.YtkofjkadmknmjaaDoorTie
import Derived.Lib.LaidTab
import Derived.LaidMore
import Derived.Stop.LaidErr
import Derived.SevenTiedAt
import Derived.HandedShaped
import Derived.Test.YtkofjkadmknmjaaDoorCards
import Derived.Deep.CutBlock
import Derived.Deep.DeepCutAuto
import Derived.Laws.IdiomStrings
import Derived.Outline
import Derived.IntWalk
import Derived.StillTail
import Derived.Laws.Tables
import Derived.Laws.Rows
import Derived.ChangeKeysEq
import Derived.Laws.StructEq
import Derived.Lib.AppendZeros
import Derived.Deep.Quiet
import Derived.OwnWalk
import Derived.Lib.TrailingZeros
import Derived.Lib.SplitLaws
import Derived.Lib.ItoaNum
import Derived.Shelf.Strings.PiecesUse
namespace Go.Proofs.YtkofjkadmknmjaaDoor
open Go.RowKit

theorem opn_len : ∀ l : List UInt8, (opn l).length ≤ l.length := by
  intro l
  induction h : l.length using Nat.strongRecOn generalizing l with
  | _ n ih =>
    match l with
    | [] => rw [opn]; simp
    | [c] => rw [opn]; simp
    | c :: d :: r =>
      simp only [List.length_cons] at h
      rw [opn_two]
      split
      · have := ih (d :: r).length (by simp; omega) (d :: r) rfl
        simp at this ⊢; omega
      · match r with
        | [] => simp at h ⊢; omega
        | [a] =>
          simp only
          rw [opn_one]; simp at h ⊢; omega
        | a :: b :: r2 =>
          simp only
          simp only [List.length_cons] at h
          split
          · have := ih r2.length (by omega) r2 rfl
            simp at this ⊢; omega
          · have := ih (a :: b :: r2).length (by simp; omega) (a :: b :: r2) rfl
            simp at this ⊢; omega
set_option maxHeartbeats 2000000 in
set_option maxRecDepth 4000 in
theorem ref04_Read_num (t : List UInt8) (n : Nat) (w : World) (hb : t.length ≤ 1000000) (hi : intR t 1099511627776 = some n) : Calls Tryd.prog 25 #[.string (str t)] w (RetV w (valT t)) := by
  have CI := Lib.hid (fun w' => c_ref03_Int t 1099511627776 w' (by omega))
  rw [(intR_some hi).1, (intR_some hi).2] at CI
  have hV : candV t = ⟨1, (n : Int), []⟩ := by unfold candV; rw [hi]
  have RD := candV_read t
  rw [hV] at RD
  obtain ⟨SV, hSV⟩ : ∃ l, l = showV ⟨1, (n : Int), []⟩ := ⟨_, rfl⟩
  have CS := Lib.hid (fun w' => show Calls Tryd.prog 29 #[.agg (⟨1, (n : Int), []⟩ : Val).c3] w' (RetV w' (.string (str SV))) by rw [hSV]; exact c_ref04_Show ⟨1, (n : Int), []⟩ w' (by simp))
  rw [← hSV] at RD
  clear hSV hV
  clear hi
  by_cases he : SV = t
  · have j9 : (SV != t) = false := by simpa using he
    have j8 : (SV == t) = true := by simpa using he
    rw [if_pos he] at RD
    rw [valT_some RD]
    clear he RD
    go_enter Tryd.func25, Tryd.ntmps25
    have B := Lib.hid (At2.new w 23 23 vz.c3 vz.c3)
    go_wp2_with (fail)
    refine (CI.out _).mono ?_
    rintro e w1 ⟨rfl, hb1⟩
    replace B := Lib.hid (B.out.step hb1)
    clear hb1
    go_wp2_with (with_reducible refine stop_store 23 (.tmp 4) (.tmp 15) rfl rfl ?_)
    refine Stop.mk (wpList_storeB rfl _ _ _ rfl (w.heap.size + 1) ((⟨1, (n : Int), []⟩ : Val)).c3 (by first | rfl | simp) (by first | rfl | simp) _ B.out.2.2 strVl rfl rfl (by simp [Value.oneCell']) ?_)
    intro w3 hb3 hk3
    replace B := Lib.hid (show At2 w w3 vz.c3 ((⟨1, (n : Int), []⟩ : Val)).c3 from ⟨B.out.1.trans (hk3.oneB B.out.1.size (by omega)), B.out.2.1.kept hk3 B.out.2.1.lt (by simp), hb3⟩)
    clear hb3 hk3
    have v0 := B.out.2.2.cell (show (⟨1, (n : Int), []⟩ : Val).c3[0]? = _ from rfl)
    have v1 := B.out.2.2.cell (show (⟨1, (n : Int), []⟩ : Val).c3[1]? = _ from rfl)
    have v2 := B.out.2.2.cell (show (⟨1, (n : Int), []⟩ : Val).c3[2]? = _ from rfl)
    go_wp2_with (fail)
    refine (CS.out _).mono ?_
    rintro e w5 ⟨rfl, hb5⟩
    replace B := Lib.hid (B.out.step hb5)
    clear hb5 v0 v1 v2
    have v0 := B.out.2.2.cell (show (⟨1, (n : Int), []⟩ : Val).c3[0]? = _ from rfl)
    have v1 := B.out.2.2.cell (show (⟨1, (n : Int), []⟩ : Val).c3[1]? = _ from rfl)
    have v2 := B.out.2.2.cell (show (⟨1, (n : Int), []⟩ : Val).c3[2]? = _ from rfl)
    go_wp2_with (with_reducible refine stop_store 23 (.tmp 2) (.tmp 37) rfl rfl ?_)
    refine Stop.mk (wpList_storeB rfl _ _ _ rfl w.heap.size _ rfl rfl _ B.out.2.1 strVl rfl rfl (by simp [Value.oneCell']) ?_)
    intro w9 hb9 hk9
    go_wp2_with (fail)
    refine bodyPost_ret (results_B2 rfl rfl rfl hb9 strVl rfl) rfl ⟨?_, B.out.1.trans (hk9.oneB B.out.1.size (Nat.le_refl _))⟩
    rfl
  · have j9 : (SV != t) = true := by simpa using he
    have j8 : (SV == t) = false := by simpa using he
    rw [if_neg he] at RD
    rw [valT_none RD]
    clear he RD
    go_enter Tryd.func25, Tryd.ntmps25
    have B := Lib.hid (At2.new w 23 23 vz.c3 vz.c3)
    go_wp2_with (fail)
    refine (CI.out _).mono ?_
    rintro e w1 ⟨rfl, hb1⟩
    replace B := Lib.hid (B.out.step hb1)
    clear hb1
    go_wp2_with (with_reducible refine stop_store 23 (.tmp 4) (.tmp 15) rfl rfl ?_)
    refine Stop.mk (wpList_storeB rfl _ _ _ rfl (w.heap.size + 1) ((⟨1, (n : Int), []⟩ : Val)).c3 (by first | rfl | simp) (by first | rfl | simp) _ B.out.2.2 strVl rfl rfl (by simp [Value.oneCell']) ?_)
    intro w3 hb3 hk3
    replace B := Lib.hid (show At2 w w3 vz.c3 ((⟨1, (n : Int), []⟩ : Val)).c3 from ⟨B.out.1.trans (hk3.oneB B.out.1.size (by omega)), B.out.2.1.kept hk3 B.out.2.1.lt (by simp), hb3⟩)
    clear hb3 hk3
    have v0 := B.out.2.2.cell (show (⟨1, (n : Int), []⟩ : Val).c3[0]? = _ from rfl)
    have v1 := B.out.2.2.cell (show (⟨1, (n : Int), []⟩ : Val).c3[1]? = _ from rfl)
    have v2 := B.out.2.2.cell (show (⟨1, (n : Int), []⟩ : Val).c3[2]? = _ from rfl)
    go_wp2_with (fail)
    refine (CS.out _).mono ?_
    rintro e w5 ⟨rfl, hb5⟩
    replace B := Lib.hid (B.out.step hb5)
    clear hb5 v0 v1 v2
    go_wp2_with (with_reducible refine stop_store 23 (.tmp 2) (.tmp 36) rfl rfl ?_)
    refine Stop.mk (wpList_storeB rfl _ _ _ rfl w.heap.size _ rfl rfl _ B.out.2.1 strVl rfl rfl (by simp [Value.oneCell']) ?_)
    intro w9 hb9 hk9
    go_wp2_with (fail)
    refine bodyPost_ret (results_B2 rfl rfl rfl hb9 strVl rfl) rfl ⟨?_, B.out.1.trans (hk9.oneB B.out.1.size (Nat.le_refl _))⟩
    rfl
set_option maxHeartbeats 2000000 in
set_option maxRecDepth 4000 in
theorem ref04_Read_text (t : List UInt8) (w : World) (hi : intR t 1099511627776 = none) (h1 : 1 < t.length) (h2 : (t[0]'(by omega)).toNat = 34) (h3 : t.length ≤ 98) : Calls Tryd.prog 25 #[.string (str t)] w (RetV w (valT t)) := by
  have CI := Lib.hid (fun w' => c_ref03_Int t 1099511627776 w' (by omega))
  rw [(intR_none hi).1, (intR_none hi).2] at CI
  have h0 : 0 < t.length := by omega
  have hh : t.head? = some 34 := by rw [List.head?_eq_getElem?, List.getElem?_eq_getElem h0]; congr 1; exact u8_eq h2
  have hV0 : candV t = ⟨2, 0, opn (t.drop 1)⟩ := by unfold candV; rw [hi]; exact if_pos ⟨h1, hh, h3⟩
  obtain ⟨u, hu⟩ : ∃ u, u = opn (t.drop 1) := ⟨_, rfl⟩
  have CO := Lib.hid (fun w' => show Calls Tryd.prog 75 #[.string (str t)] w' (RetV w' (.string (str u))) by rw [hu]; exact c_ref04_open t w' (by omega) (by omega))
  have hul : u.length ≤ 9223372036854775807 := by rw [hu]; exact Nat.le_trans (opn_len _) (by rw [List.length_drop]; omega)
  have hV : candV t = ⟨2, 0, u⟩ := by rw [hV0, hu]
  clear hV0 hh hi hu
  have RD := candV_read t
  rw [hV] at RD
  obtain ⟨SV, hSV⟩ : ∃ l, l = showV ⟨2, 0, u⟩ := ⟨_, rfl⟩
  have CS := Lib.hid (fun w' => show Calls Tryd.prog 29 #[.agg (⟨2, 0, u⟩ : Val).c3] w' (RetV w' (.string (str SV))) by rw [hSV]; exact c_ref04_Show ⟨2, 0, u⟩ w' hul)
  rw [← hSV] at RD
  clear hSV hV
  have d1 : decide ((1 : Int) < (t.length : Int)) = true := by rw [decide_eq_true_iff]; omega
  have d2 : (((t[0]'h0).toNat : Int) == 34) = true := by rw [beq_iff_eq]; omega
  have d3 : decide ((t.length : Int) ≤ 98) = true := by rw [decide_eq_true_iff]; omega
  clear h2
  by_cases he : SV = t
  · have j9 : (SV != t) = false := by simpa using he
    have j8 : (SV == t) = true := by simpa using he
    rw [if_pos he] at RD
    rw [valT_some RD]
    clear he RD
    go_enter Tryd.func25, Tryd.ntmps25
    have B := Lib.hid (At2.new w 23 23 vz.c3 vz.c3)
    go_wp2_with (fail)
    refine (CI.out _).mono ?_
    rintro e w1 ⟨rfl, hb1⟩
    replace B := Lib.hid (B.out.step hb1)
    clear hb1
    go_wp2_with (fail)
    refine (CO.out _).mono ?_
    rintro e w2 ⟨rfl, hb2⟩
    replace B := Lib.hid (B.out.step hb2)
    clear hb2
    go_wp2_with (with_reducible refine stop_store 23 (.tmp 4) (.tmp 31) rfl rfl ?_)
    refine Stop.mk (wpList_storeB rfl _ _ _ rfl (w.heap.size + 1) ((⟨2, 0, u⟩ : Val)).c3 (by first | rfl | simp) (by first | rfl | simp) _ B.out.2.2 strVl rfl rfl (by simp [Value.oneCell']) ?_)
    intro w3 hb3 hk3
    replace B := Lib.hid (show At2 w w3 vz.c3 ((⟨2, 0, u⟩ : Val)).c3 from ⟨B.out.1.trans (hk3.oneB B.out.1.size (by omega)), B.out.2.1.kept hk3 B.out.2.1.lt (by simp), hb3⟩)
    clear hb3 hk3
    have v0 := B.out.2.2.cell (show (⟨2, 0, u⟩ : Val).c3[0]? = _ from rfl)
    have v1 := B.out.2.2.cell (show (⟨2, 0, u⟩ : Val).c3[1]? = _ from rfl)
    have v2 := B.out.2.2.cell (show (⟨2, 0, u⟩ : Val).c3[2]? = _ from rfl)
    go_wp2_with (fail)
    refine (CS.out _).mono ?_
    rintro e w5 ⟨rfl, hb5⟩
    replace B := Lib.hid (B.out.step hb5)
    clear hb5 v0 v1 v2
    have v0 := B.out.2.2.cell (show (⟨2, 0, u⟩ : Val).c3[0]? = _ from rfl)
    have v1 := B.out.2.2.cell (show (⟨2, 0, u⟩ : Val).c3[1]? = _ from rfl)
    have v2 := B.out.2.2.cell (show (⟨2, 0, u⟩ : Val).c3[2]? = _ from rfl)
    go_wp2_with (with_reducible refine stop_store 23 (.tmp 2) (.tmp 37) rfl rfl ?_)
    refine Stop.mk (wpList_storeB rfl _ _ _ rfl w.heap.size _ rfl rfl _ B.out.2.1 strVl rfl rfl (by simp [Value.oneCell']) ?_)
    intro w9 hb9 hk9
    go_wp2_with (fail)
    refine bodyPost_ret (results_B2 rfl rfl rfl hb9 strVl rfl) rfl ⟨?_, B.out.1.trans (hk9.oneB B.out.1.size (Nat.le_refl _))⟩
    rfl
  · have j9 : (SV != t) = true := by simpa using he
    have j8 : (SV == t) = false := by simpa using he
    rw [if_neg he] at RD
    rw [valT_none RD]
    clear he RD
    go_enter Tryd.func25, Tryd.ntmps25
    have B := Lib.hid (At2.new w 23 23 vz.c3 vz.c3)
    go_wp2_with (fail)
    refine (CI.out _).mono ?_
    rintro e w1 ⟨rfl, hb1⟩
    replace B := Lib.hid (B.out.step hb1)
    clear hb1
    go_wp2_with (fail)
    refine (CO.out _).mono ?_
    rintro e w2 ⟨rfl, hb2⟩
    replace B := Lib.hid (B.out.step hb2)
    clear hb2
    go_wp2_with (with_reducible refine stop_store 23 (.tmp 4) (.tmp 31) rfl rfl ?_)
    refine Stop.mk (wpList_storeB rfl _ _ _ rfl (w.heap.size + 1) ((⟨2, 0, u⟩ : Val)).c3 (by first | rfl | simp) (by first | rfl | simp) _ B.out.2.2 strVl rfl rfl (by simp [Value.oneCell']) ?_)
    intro w3 hb3 hk3
    replace B := Lib.hid (show At2 w w3 vz.c3 ((⟨2, 0, u⟩ : Val)).c3 from ⟨B.out.1.trans (hk3.oneB B.out.1.size (by omega)), B.out.2.1.kept hk3 B.out.2.1.lt (by simp), hb3⟩)
    clear hb3 hk3
    have v0 := B.out.2.2.cell (show (⟨2, 0, u⟩ : Val).c3[0]? = _ from rfl)
    have v1 := B.out.2.2.cell (show (⟨2, 0, u⟩ : Val).c3[1]? = _ from rfl)
    have v2 := B.out.2.2.cell (show (⟨2, 0, u⟩ : Val).c3[2]? = _ from rfl)
    go_wp2_with (fail)
    refine (CS.out _).mono ?_
    rintro e w5 ⟨rfl, hb5⟩
    replace B := Lib.hid (B.out.step hb5)
    clear hb5 v0 v1 v2
    go_wp2_with (with_reducible refine stop_store 23 (.tmp 2) (.tmp 36) rfl rfl ?_)
    refine Stop.mk (wpList_storeB rfl _ _ _ rfl w.heap.size _ rfl rfl _ B.out.2.1 strVl rfl rfl (by simp [Value.oneCell']) ?_)
    intro w9 hb9 hk9
    go_wp2_with (fail)
    refine bodyPost_ret (results_B2 rfl rfl rfl hb9 strVl rfl) rfl ⟨?_, B.out.1.trans (hk9.oneB B.out.1.size (Nat.le_refl _))⟩
    rfl
set_option maxHeartbeats 2000000 in
set_option maxRecDepth 4000 in
theorem ref04_Read_short (t : List UInt8) (w : World) (hb : t.length ≤ 1000000) (hi : intR t 1099511627776 = none) (h : t.length ≤ 1) (hV : candV t = vz) : Calls Tryd.prog 25 #[.string (str t)] w (RetV w (valT t)) := by
  have CI := Lib.hid (fun w' => c_ref03_Int t 1099511627776 w' (by omega))
  rw [(intR_none hi).1, (intR_none hi).2] at CI
  have RD := candV_read t
  rw [hV] at RD
  obtain ⟨SV, hSV⟩ : ∃ l, l = showV vz := ⟨_, rfl⟩
  have CS := Lib.hid (fun w' => show Calls Tryd.prog 29 #[.agg (vz : Val).c3] w' (RetV w' (.string (str SV))) by rw [hSV]; exact c_ref04_Show vz w' (by simp))
  rw [← hSV] at RD
  clear hSV hV
  clear hi
  have d1 : decide ((1 : Int) < (t.length : Int)) = false := by rw [decide_eq_false_iff_not]; omega
  by_cases he : SV = t
  · have j9 : (SV != t) = false := by simpa using he
    have j8 : (SV == t) = true := by simpa using he
    rw [if_pos he] at RD
    rw [valT_some RD]
    clear he RD
    go_enter Tryd.func25, Tryd.ntmps25
    have B := Lib.hid (At2.new w 23 23 vz.c3 vz.c3)
    go_wp2_with (fail)
    refine (CI.out _).mono ?_
    rintro e w1 ⟨rfl, hb1⟩
    replace B := Lib.hid (B.out.step hb1)
    clear hb1
    have v0 := B.out.2.2.cell (show (vz : Val).c3[0]? = _ from rfl)
    have v1 := B.out.2.2.cell (show (vz : Val).c3[1]? = _ from rfl)
    have v2 := B.out.2.2.cell (show (vz : Val).c3[2]? = _ from rfl)
    go_wp2_with (fail)
    refine (CS.out _).mono ?_
    rintro e w5 ⟨rfl, hb5⟩
    replace B := Lib.hid (B.out.step hb5)
    clear hb5 v0 v1 v2
    have v0 := B.out.2.2.cell (show (vz : Val).c3[0]? = _ from rfl)
    have v1 := B.out.2.2.cell (show (vz : Val).c3[1]? = _ from rfl)
    have v2 := B.out.2.2.cell (show (vz : Val).c3[2]? = _ from rfl)
    go_wp2_with (with_reducible refine stop_store 23 (.tmp 2) (.tmp 37) rfl rfl ?_)
    refine Stop.mk (wpList_storeB rfl _ _ _ rfl w.heap.size _ rfl rfl _ B.out.2.1 strVl rfl rfl (by simp [Value.oneCell']) ?_)
    intro w9 hb9 hk9
    go_wp2_with (fail)
    refine bodyPost_ret (results_B2 rfl rfl rfl hb9 strVl rfl) rfl ⟨?_, B.out.1.trans (hk9.oneB B.out.1.size (Nat.le_refl _))⟩
    rfl
  · have j9 : (SV != t) = true := by simpa using he
    have j8 : (SV == t) = false := by simpa using he
    rw [if_neg he] at RD
    rw [valT_none RD]
    clear he RD
    go_enter Tryd.func25, Tryd.ntmps25
    have B := Lib.hid (At2.new w 23 23 vz.c3 vz.c3)
    go_wp2_with (fail)
    refine (CI.out _).mono ?_
    rintro e w1 ⟨rfl, hb1⟩
    replace B := Lib.hid (B.out.step hb1)
    clear hb1
    have v0 := B.out.2.2.cell (show (vz : Val).c3[0]? = _ from rfl)
    have v1 := B.out.2.2.cell (show (vz : Val).c3[1]? = _ from rfl)
    have v2 := B.out.2.2.cell (show (vz : Val).c3[2]? = _ from rfl)
    go_wp2_with (fail)
    refine (CS.out _).mono ?_
    rintro e w5 ⟨rfl, hb5⟩
    replace B := Lib.hid (B.out.step hb5)
    clear hb5 v0 v1 v2
    go_wp2_with (with_reducible refine stop_store 23 (.tmp 2) (.tmp 36) rfl rfl ?_)
    refine Stop.mk (wpList_storeB rfl _ _ _ rfl w.heap.size _ rfl rfl _ B.out.2.1 strVl rfl rfl (by simp [Value.oneCell']) ?_)
    intro w9 hb9 hk9
    go_wp2_with (fail)
    refine bodyPost_ret (results_B2 rfl rfl rfl hb9 strVl rfl) rfl ⟨?_, B.out.1.trans (hk9.oneB B.out.1.size (Nat.le_refl _))⟩
    rfl
set_option maxHeartbeats 2000000 in
set_option maxRecDepth 4000 in
theorem ref04_Read_head (t : List UInt8) (w : World) (hb : t.length ≤ 1000000) (hi : intR t 1099511627776 = none) (h1 : 1 < t.length) (h2 : (t[0]'(by omega)).toNat ≠ 34) (hV : candV t = vz) : Calls Tryd.prog 25 #[.string (str t)] w (RetV w (valT t)) := by
  have CI := Lib.hid (fun w' => c_ref03_Int t 1099511627776 w' (by omega))
  rw [(intR_none hi).1, (intR_none hi).2] at CI
  have RD := candV_read t
  rw [hV] at RD
  obtain ⟨SV, hSV⟩ : ∃ l, l = showV vz := ⟨_, rfl⟩
  have CS := Lib.hid (fun w' => show Calls Tryd.prog 29 #[.agg (vz : Val).c3] w' (RetV w' (.string (str SV))) by rw [hSV]; exact c_ref04_Show vz w' (by simp))
  rw [← hSV] at RD
  clear hSV hV
  clear hi
  have h0 : 0 < t.length := by omega
  have d1 : decide ((1 : Int) < (t.length : Int)) = true := by rw [decide_eq_true_iff]; omega
  have d2 : (((t[0]'h0).toNat : Int) == 34) = false := by rw [beq_eq_false_iff_ne]; omega
  clear h2
  by_cases he : SV = t
  · have j9 : (SV != t) = false := by simpa using he
    have j8 : (SV == t) = true := by simpa using he
    rw [if_pos he] at RD
    rw [valT_some RD]
    clear he RD
    go_enter Tryd.func25, Tryd.ntmps25
    have B := Lib.hid (At2.new w 23 23 vz.c3 vz.c3)
    go_wp2_with (fail)
    refine (CI.out _).mono ?_
    rintro e w1 ⟨rfl, hb1⟩
    replace B := Lib.hid (B.out.step hb1)
    clear hb1
    have v0 := B.out.2.2.cell (show (vz : Val).c3[0]? = _ from rfl)
    have v1 := B.out.2.2.cell (show (vz : Val).c3[1]? = _ from rfl)
    have v2 := B.out.2.2.cell (show (vz : Val).c3[2]? = _ from rfl)
    go_wp2_with (fail)
    refine (CS.out _).mono ?_
    rintro e w5 ⟨rfl, hb5⟩
    replace B := Lib.hid (B.out.step hb5)
    clear hb5 v0 v1 v2
    have v0 := B.out.2.2.cell (show (vz : Val).c3[0]? = _ from rfl)
    have v1 := B.out.2.2.cell (show (vz : Val).c3[1]? = _ from rfl)
    have v2 := B.out.2.2.cell (show (vz : Val).c3[2]? = _ from rfl)
    go_wp2_with (with_reducible refine stop_store 23 (.tmp 2) (.tmp 37) rfl rfl ?_)
    refine Stop.mk (wpList_storeB rfl _ _ _ rfl w.heap.size _ rfl rfl _ B.out.2.1 strVl rfl rfl (by simp [Value.oneCell']) ?_)
    intro w9 hb9 hk9
    go_wp2_with (fail)
    refine bodyPost_ret (results_B2 rfl rfl rfl hb9 strVl rfl) rfl ⟨?_, B.out.1.trans (hk9.oneB B.out.1.size (Nat.le_refl _))⟩
    rfl
  · have j9 : (SV != t) = true := by simpa using he
    have j8 : (SV == t) = false := by simpa using he
    rw [if_neg he] at RD
    rw [valT_none RD]
    clear he RD
    go_enter Tryd.func25, Tryd.ntmps25
    have B := Lib.hid (At2.new w 23 23 vz.c3 vz.c3)
    go_wp2_with (fail)
    refine (CI.out _).mono ?_
    rintro e w1 ⟨rfl, hb1⟩
    replace B := Lib.hid (B.out.step hb1)
    clear hb1
    have v0 := B.out.2.2.cell (show (vz : Val).c3[0]? = _ from rfl)
    have v1 := B.out.2.2.cell (show (vz : Val).c3[1]? = _ from rfl)
    have v2 := B.out.2.2.cell (show (vz : Val).c3[2]? = _ from rfl)
    go_wp2_with (fail)
    refine (CS.out _).mono ?_
    rintro e w5 ⟨rfl, hb5⟩
    replace B := Lib.hid (B.out.step hb5)
    clear hb5 v0 v1 v2
    go_wp2_with (with_reducible refine stop_store 23 (.tmp 2) (.tmp 36) rfl rfl ?_)
    refine Stop.mk (wpList_storeB rfl _ _ _ rfl w.heap.size _ rfl rfl _ B.out.2.1 strVl rfl rfl (by simp [Value.oneCell']) ?_)
    intro w9 hb9 hk9
    go_wp2_with (fail)
    refine bodyPost_ret (results_B2 rfl rfl rfl hb9 strVl rfl) rfl ⟨?_, B.out.1.trans (hk9.oneB B.out.1.size (Nat.le_refl _))⟩
    rfl
set_option maxHeartbeats 2000000 in
set_option maxRecDepth 4000 in
theorem ref04_Read_long (t : List UInt8) (w : World) (hb : t.length ≤ 1000000) (hi : intR t 1099511627776 = none) (h1 : 1 < t.length) (h2 : (t[0]'(by omega)).toNat = 34) (h3 : 98 < t.length) (hV : candV t = vz) : Calls Tryd.prog 25 #[.string (str t)] w (RetV w (valT t)) := by
  have CI := Lib.hid (fun w' => c_ref03_Int t 1099511627776 w' (by omega))
  rw [(intR_none hi).1, (intR_none hi).2] at CI
  have RD := candV_read t
  rw [hV] at RD
  obtain ⟨SV, hSV⟩ : ∃ l, l = showV vz := ⟨_, rfl⟩
  have CS := Lib.hid (fun w' => show Calls Tryd.prog 29 #[.agg (vz : Val).c3] w' (RetV w' (.string (str SV))) by rw [hSV]; exact c_ref04_Show vz w' (by simp))
  rw [← hSV] at RD
  clear hSV hV
  clear hi
  have h0 : 0 < t.length := by omega
  have d1 : decide ((1 : Int) < (t.length : Int)) = true := by rw [decide_eq_true_iff]; omega
  have d2 : (((t[0]'h0).toNat : Int) == 34) = true := by rw [beq_iff_eq]; omega
  have d3 : decide ((t.length : Int) ≤ 98) = false := by rw [decide_eq_false_iff_not]; omega
  clear h2
  by_cases he : SV = t
  · have j9 : (SV != t) = false := by simpa using he
    have j8 : (SV == t) = true := by simpa using he
    rw [if_pos he] at RD
    rw [valT_some RD]
    clear he RD
    go_enter Tryd.func25, Tryd.ntmps25
    have B := Lib.hid (At2.new w 23 23 vz.c3 vz.c3)
    go_wp2_with (fail)
    refine (CI.out _).mono ?_
    rintro e w1 ⟨rfl, hb1⟩
    replace B := Lib.hid (B.out.step hb1)
    clear hb1
    have v0 := B.out.2.2.cell (show (vz : Val).c3[0]? = _ from rfl)
    have v1 := B.out.2.2.cell (show (vz : Val).c3[1]? = _ from rfl)
    have v2 := B.out.2.2.cell (show (vz : Val).c3[2]? = _ from rfl)
    go_wp2_with (fail)
    refine (CS.out _).mono ?_
    rintro e w5 ⟨rfl, hb5⟩
    replace B := Lib.hid (B.out.step hb5)
    clear hb5 v0 v1 v2
    have v0 := B.out.2.2.cell (show (vz : Val).c3[0]? = _ from rfl)
    have v1 := B.out.2.2.cell (show (vz : Val).c3[1]? = _ from rfl)
    have v2 := B.out.2.2.cell (show (vz : Val).c3[2]? = _ from rfl)
    go_wp2_with (with_reducible refine stop_store 23 (.tmp 2) (.tmp 37) rfl rfl ?_)
    refine Stop.mk (wpList_storeB rfl _ _ _ rfl w.heap.size _ rfl rfl _ B.out.2.1 strVl rfl rfl (by simp [Value.oneCell']) ?_)
    intro w9 hb9 hk9
    go_wp2_with (fail)
    refine bodyPost_ret (results_B2 rfl rfl rfl hb9 strVl rfl) rfl ⟨?_, B.out.1.trans (hk9.oneB B.out.1.size (Nat.le_refl _))⟩
    rfl
  · have j9 : (SV != t) = true := by simpa using he
    have j8 : (SV == t) = false := by simpa using he
    rw [if_neg he] at RD
    rw [valT_none RD]
    clear he RD
    go_enter Tryd.func25, Tryd.ntmps25
    have B := Lib.hid (At2.new w 23 23 vz.c3 vz.c3)
    go_wp2_with (fail)
    refine (CI.out _).mono ?_
    rintro e w1 ⟨rfl, hb1⟩
    replace B := Lib.hid (B.out.step hb1)
    clear hb1
    have v0 := B.out.2.2.cell (show (vz : Val).c3[0]? = _ from rfl)
    have v1 := B.out.2.2.cell (show (vz : Val).c3[1]? = _ from rfl)
    have v2 := B.out.2.2.cell (show (vz : Val).c3[2]? = _ from rfl)
    go_wp2_with (fail)
    refine (CS.out _).mono ?_
    rintro e w5 ⟨rfl, hb5⟩
    replace B := Lib.hid (B.out.step hb5)
    clear hb5 v0 v1 v2
    go_wp2_with (with_reducible refine stop_store 23 (.tmp 2) (.tmp 36) rfl rfl ?_)
    refine Stop.mk (wpList_storeB rfl _ _ _ rfl w.heap.size _ rfl rfl _ B.out.2.1 strVl rfl rfl (by simp [Value.oneCell']) ?_)
    intro w9 hb9 hk9
    go_wp2_with (fail)
    refine bodyPost_ret (results_B2 rfl rfl rfl hb9 strVl rfl) rfl ⟨?_, B.out.1.trans (hk9.oneB B.out.1.size (Nat.le_refl _))⟩
    rfl
theorem c_ref04_Read (t : List UInt8) (w : World) (hb : t.length ≤ 1000000) : Calls Tryd.prog 25 #[.string (str t)] w (RetV w (valT t)) := by
  cases hi : intR t 1099511627776 with
  | some n => exact ref04_Read_num t n w hb hi
  | none =>
    by_cases h1 : 1 < t.length
    · by_cases h2 : (t[0]'(by omega)).toNat = 34
      · by_cases h3 : t.length ≤ 98
        · exact ref04_Read_text t w hi h1 h2 h3
        · exact ref04_Read_long t w hb hi h1 h2 (by omega) (by unfold candV; rw [hi]; exact if_neg (fun h => h3 h.2.2))
      · exact ref04_Read_head t w hb hi h1 h2 (by
          unfold candV; rw [hi]
          refine if_neg (fun h => h2 ?_)
          have h4 := h.2.1
          rw [List.head?_eq_getElem?, List.getElem?_eq_getElem (by omega)] at h4
          injection h4 with h4
          rw [h4]; rfl)
    · exact ref04_Read_short t w hb hi (by omega) (by unfold candV; rw [hi]; exact if_neg (fun h => h1 h.1))
end Go.Proofs.YtkofjkadmknmjaaDoor
namespace Go.Proofs.YtkofjkadmknmjaaDoor

/-- l begins with n trees, r stands behind them; d: how deep the deepest is. -/
inductive Trees : Nat → List Node → List Node → Nat → Prop
  | nil (l : List Node) : Trees 0 l l 0
  | cons {x : Node} {l m r : List Node} {n d1 d2 : Nat} : Trees (parts x.op).toNat l m d1 → Trees n m r d2 → Trees (n + 1) (x :: l) r (max (d1 + 1) d2)

theorem Trees.length {n : Nat} {l r : List Node} {d : Nat} (h : Trees n l r d) : r.length + n ≤ l.length := by
  induction h with
  | nil l => simp
  | cons _ _ h1 h2 => simp only [List.length_cons]; omega
theorem Trees.zero {l r : List Node} {d : Nat} (h : Trees 0 l r d) : l = r ∧ d = 0 := by cases h; exact ⟨rfl, rfl⟩
theorem Trees.depth_pos {n : Nat} {l r : List Node} {d : Nat} (h : Trees n l r d) : n = 0 ∨ 1 ≤ d := by
  cases h with
  | nil l => exact .inl rfl
  | cons _ _ => right; omega
theorem Trees.append {n k : Nat} {l m r : List Node} {d1 d2 : Nat} (h : Trees n l m d1) : Trees k m r d2 → Trees (n + k) l r (max d1 d2) := by
  induction h generalizing k r d2 with
  | nil l => intro h; simpa using h
  | cons t1 _ _ ih2 =>
    intro h
    have := Trees.cons t1 (ih2 h)
    rw [← Nat.max_assoc] at this
    rw [Nat.add_right_comm]
    exact this
theorem Trees.split {k : Nat} : ∀ {n : Nat} {l r : List Node} {d : Nat}, Trees (n + k) l r d → ∃ m d1 d2, Trees n l m d1 ∧ Trees k m r d2 ∧ d = max d1 d2
  | 0, l, r, d, h => ⟨l, 0, d, .nil l, by simpa using h, by simp⟩
  | n + 1, l, r, d, h => by
    rw [Nat.add_right_comm] at h
    cases h with
    | cons t1 t2 =>
      obtain ⟨m, e1, e2, h1, h2, rfl⟩ := Trees.split t2
      exact ⟨m, _, e2, .cons t1 h1, h2, (Nat.max_assoc ..).symm⟩
/-- What stands behind does not matter. -/
theorem Trees.behind {n : Nat} {l r : List Node} {d : Nat} (h : Trees n l r d) : ∃ p, l = p ++ r ∧ ∀ q, Trees n (p ++ q) q d := by
  induction h with
  | nil l => exact ⟨[], rfl, fun q => .nil q⟩
  | @cons x l m r n d1 d2 _ _ h1 h2 =>
    obtain ⟨p1, rfl, g1⟩ := h1
    obtain ⟨p2, rfl, g2⟩ := h2
    exact ⟨x :: (p1 ++ p2), by simp, fun q => by
      have := Trees.cons (x := x) (g1 (p2 ++ q)) (g2 q)
      simpa using this⟩
/-- A list that is one tree. -/
def Tree (l : List Node) (d : Nat) : Prop := Trees 1 l [] d
theorem Tree.pos {l : List Node} {d : Nat} (h : Tree l d) : 1 ≤ d := (Trees.depth_pos h).resolve_left (by omega)
theorem Tree.head {l : List Node} {d : Nat} (h : Tree l d) : ∃ x r d', l = x :: r ∧ Trees (parts x.op).toNat r [] d' ∧ d = d' + 1 := by
  unfold Tree at h
  cases h with
  | cons t1 t2 =>
    obtain ⟨rfl, rfl⟩ := t2.zero
    exact ⟨_, _, _, rfl, t1, by omega⟩
/-! What trees are cut into. -/
def cut : Nat → List Node → List (List Node)
  | 0, _ => []
  | n + 1, l => l.take (endFrom l 1 0).toNat :: cut n (l.drop (endFrom l 1 0).toNat)
/-! How deep: by the places that are open. -/
def dec : List Int → List Int
  | [] => []
  | x :: s => if x - 1 = 0 then dec s else (x - 1) :: s
def push (p : Int) (s : List Int) : List Int := if p = 0 then dec s else p :: s
def deepFold : List Node → List Int → Int → Int
  | [], _, d => d
  | x :: r, s, d => deepFold r (push (parts x.op) s) (max d (s.length + 1))
/-- How deep a filter is; 0 where it is none. -/
def depth (l : List Node) : Int := if l = [] ∨ endAt l 0 ≠ l.length then 0 else deepFold l [] 0
end Go.Proofs.YtkofjkadmknmjaaDoor
namespace Go.Proofs.YtkofjkadmknmjaaDoor
open Go.RowKit

theorem Kid.cells_len (x : Kid) : x.cells.length = 1 := rfl
end Go.Proofs.YtkofjkadmknmjaaDoor
namespace Go.Proofs.YtkofjkadmknmjaaDoor
open Go.RowKit

def joined (op : Int) (l : List Node) : List Node := ⟨op, 0, ⟨0, 0, []⟩⟩ :: l
theorem Tree.ahead {a : List Node} {d : Nat} (h : Tree a d) (q : List Node) : Trees 1 (a ++ q) q d := by
  obtain ⟨p, hp, hq⟩ := Trees.behind h
  rw [List.append_nil] at hp
  subst hp
  exact hq q
end Go.Proofs.YtkofjkadmknmjaaDoor
namespace Go.Proofs.YtkofjkadmknmjaaDoor
open Go.RowKit

theorem InN.lit (w : World) (l : List Node) (t : TypeId) (n : Nat) (hn : n = l.length) (hl : l.length ≤ 4294967296) : InN (w.alloc (.cells (l.flatMap Node.cells).toArray t)) (some ⟨w.heap.size, 0, none⟩) n l := by
  subst hn
  refine ⟨Nat.le_refl _, by omega, hl, .inr ⟨_, 0, rfl, by simp, fun i hi j u hu => ?_⟩⟩
  have hj : j < 5 := by rw [← Node.cells_len l[i]]; exact (List.getElem?_eq_some_iff.1 hu).1
  rw [World.cell?_alloc_new, Nat.zero_add]
  have := flat_get (k := 5) Node.cells_len l i hi j hj
  rw [List.getElem?_toArray, this]; exact hu
end Go.Proofs.YtkofjkadmknmjaaDoor
namespace Go.Proofs.YtkofjkadmknmjaaDoor
open Go.RowKit

theorem In.lit {α : Type} {k : Nat} {cs : α → List Value} (hk : ∀ x, (cs x).length = k) (w : World) (l : List α) (t : TypeId) (n : Nat) (hn : n = l.length) (hl : l.length ≤ 4294967296) : In k cs (w.alloc (.cells (l.flatMap cs).toArray t)) (some ⟨w.heap.size, 0, none⟩) n l := by
  subst hn
  refine ⟨Nat.le_refl _, by omega, hl, .inr ⟨_, 0, rfl, by simp, fun i hi j u hu => ?_⟩⟩
  have hj : j < k := by rw [← hk l[i]]; exact (List.getElem?_eq_some_iff.1 hu).1
  rw [World.cell?_alloc_new, Nat.zero_add]
  have := flat_get (k := k) hk l i hi j hj
  rw [List.getElem?_toArray, this]; exact hu
end Go.Proofs.YtkofjkadmknmjaaDoor
namespace Go.Proofs.YtkofjkadmknmjaaDoor

def cmpI (a b : Int) : Int := if a < b then -1 else if b < a then 1 else 0
def cmpS : List UInt8 → List UInt8 → Int
  | [], [] => 0
  | [], _ :: _ => -1
  | _ :: _, [] => 1
  | a :: x, b :: y => if a.toNat < b.toNat then -1 else if b.toNat < a.toNat then 1 else cmpS x y
def Val.cmp (a b : Val) : Int := if cmpI a.kind b.kind ≠ 0 then cmpI a.kind b.kind else if cmpI a.n b.n ≠ 0 then cmpI a.n b.n else cmpS a.s b.s
def Node.cmp (a b : Node) : Int := if cmpI a.op b.op ≠ 0 then cmpI a.op b.op else if cmpI a.n b.n ≠ 0 then cmpI a.n b.n else a.v.cmp b.v
end Go.Proofs.YtkofjkadmknmjaaDoor
namespace Go.Proofs.YtkofjkadmknmjaaDoor

/-- Is a value less than another one of its kind? -/
def Val.less (a b : Val) : Bool := decide (a.kind = b.kind) && (decide (a.kind = 1) || decide (a.kind = 2)) && decide (a.cmp b < 0)
/-! Letters made small. -/
def lowC (c : UInt8) : UInt8 := if 65 ≤ c.toNat ∧ c.toNat ≤ 90 then UInt8.ofNat (c.toNat + 32) else c
def fold (s : List UInt8) : List UInt8 := s.map lowC
theorem fold_len (s : List UInt8) : (fold s).length = s.length := by unfold fold; simp
end Go.Proofs.YtkofjkadmknmjaaDoor
