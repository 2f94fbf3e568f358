/-
  Lemmas (walks and plain laws), in one text.
-/
import Derived.Test.YtbidnflcbgnckaaPt1
import Derived.Test.YtbidnflcbgnckaaPt3
import Derived.Test.YtbidnflcbgnckaaPt4
namespace Go.Proofs.Ytbidnflcbgnckaa
open Go.RowKit

theorem opn_len : ∀ l : List UInt8, (opn l).length ≤ l.length := by
  intro l
  induction h : l.length using Nat.strongRecOn generalizing l with
  | _ n ih =>
    match l with
    | [] => rw [opn]; simp
    | [c] => rw [opn]; simp
    | c :: d :: r =>
      simp only [List.length_cons] at h
      rw [opn_two]
      split
      · have := ih (d :: r).length (by simp; omega) (d :: r) rfl
        simp at this ⊢; omega
      · match r with
        | [] => simp at h ⊢; omega
        | [a] =>
          simp only
          rw [opn_one]; simp at h ⊢; omega
        | a :: b :: r2 =>
          simp only
          simp only [List.length_cons] at h
          split
          · have := ih r2.length (by omega) r2 rfl
            simp at this ⊢; omega
          · have := ih (a :: b :: r2).length (by simp; omega) (a :: b :: r2) rfl
            simp at this ⊢; omega
set_option maxHeartbeats 2000000 in
set_option maxRecDepth 4000 in
theorem ref04_Read_num (t : List UInt8) (n : Nat) (w : World) (hb : t.length ≤ 1000000) (hi : intR t 1099511627776 = some n) : Calls Try.prog 39 #[.string (str t)] w (RetV w (valT t)) := by
  have CI := Lib.hid (fun w' => c_ref03_Int t 1099511627776 w' (by omega))
  rw [(intR_some hi).1, (intR_some hi).2] at CI
  have hV : candV t = ⟨1, (n : Int), []⟩ := by unfold candV; rw [hi]
  have RD := candV_read t
  rw [hV] at RD
  obtain ⟨SV, hSV⟩ : ∃ l, l = showV ⟨1, (n : Int), []⟩ := ⟨_, rfl⟩
  have CS := Lib.hid (fun w' => show Calls Try.prog 58 #[.agg (⟨1, (n : Int), []⟩ : Val).c3] w' (RetV w' (.string (str SV))) by rw [hSV]; exact c_ref04_Show ⟨1, (n : Int), []⟩ w' (by simp))
  rw [← hSV] at RD
  clear hSV hV
  clear hi
  by_cases he : SV = t
  · have j9 : (SV != t) = false := by simpa using he
    have j8 : (SV == t) = true := by simpa using he
    rw [if_pos he] at RD
    rw [valT_some RD]
    clear he RD
    go_enter Try.func39, Try.ntmps39
    have B := Lib.hid (At2.new w 39 39 vz.c3 vz.c3)
    go_wp2_with (fail)
    refine (CI.out _).mono ?_
    rintro e w1 ⟨rfl, hb1⟩
    replace B := Lib.hid (B.out.step hb1)
    clear hb1
    go_wp2_with (with_reducible refine stS 39 (.tmp 4) (.tmp 15) rfl rfl ?_)
    refine Stop.mk (wsB rfl _ _ _ rfl (w.heap.size + 1) ((⟨1, (n : Int), []⟩ : Val)).c3 (by first | rfl | simp) (by first | rfl | simp) _ B.out.2.2 strVl rfl rfl (by simp [Value.oneCell']) ?_)
    intro w3 hb3 hk3
    replace B := Lib.hid (show At2 w w3 vz.c3 ((⟨1, (n : Int), []⟩ : Val)).c3 from ⟨B.out.1.trans (hk3.oneB B.out.1.size (by omega)), B.out.2.1.kept hk3 B.out.2.1.lt (by simp), hb3⟩)
    clear hb3 hk3
    have v0 := B.out.2.2.cell (show (⟨1, (n : Int), []⟩ : Val).c3[0]? = _ from rfl)
    have v1 := B.out.2.2.cell (show (⟨1, (n : Int), []⟩ : Val).c3[1]? = _ from rfl)
    have v2 := B.out.2.2.cell (show (⟨1, (n : Int), []⟩ : Val).c3[2]? = _ from rfl)
    go_wp2_with (fail)
    refine (CS.out _).mono ?_
    rintro e w5 ⟨rfl, hb5⟩
    replace B := Lib.hid (B.out.step hb5)
    clear hb5 v0 v1 v2
    have v0 := B.out.2.2.cell (show (⟨1, (n : Int), []⟩ : Val).c3[0]? = _ from rfl)
    have v1 := B.out.2.2.cell (show (⟨1, (n : Int), []⟩ : Val).c3[1]? = _ from rfl)
    have v2 := B.out.2.2.cell (show (⟨1, (n : Int), []⟩ : Val).c3[2]? = _ from rfl)
    go_wp2_with (with_reducible refine stS 39 (.tmp 2) (.tmp 37) rfl rfl ?_)
    refine Stop.mk (wsB rfl _ _ _ rfl w.heap.size _ rfl rfl _ B.out.2.1 strVl rfl rfl (by simp [Value.oneCell']) ?_)
    intro w9 hb9 hk9
    go_wp2_with (fail)
    refine bodyPost_ret (results_B2 rfl rfl rfl hb9 strVl rfl) rfl ⟨?_, B.out.1.trans (hk9.oneB B.out.1.size (Nat.le_refl _))⟩
    rfl
  · have j9 : (SV != t) = true := by simpa using he
    have j8 : (SV == t) = false := by simpa using he
    rw [if_neg he] at RD
    rw [valT_none RD]
    clear he RD
    go_enter Try.func39, Try.ntmps39
    have B := Lib.hid (At2.new w 39 39 vz.c3 vz.c3)
    go_wp2_with (fail)
    refine (CI.out _).mono ?_
    rintro e w1 ⟨rfl, hb1⟩
    replace B := Lib.hid (B.out.step hb1)
    clear hb1
    go_wp2_with (with_reducible refine stS 39 (.tmp 4) (.tmp 15) rfl rfl ?_)
    refine Stop.mk (wsB rfl _ _ _ rfl (w.heap.size + 1) ((⟨1, (n : Int), []⟩ : Val)).c3 (by first | rfl | simp) (by first | rfl | simp) _ B.out.2.2 strVl rfl rfl (by simp [Value.oneCell']) ?_)
    intro w3 hb3 hk3
    replace B := Lib.hid (show At2 w w3 vz.c3 ((⟨1, (n : Int), []⟩ : Val)).c3 from ⟨B.out.1.trans (hk3.oneB B.out.1.size (by omega)), B.out.2.1.kept hk3 B.out.2.1.lt (by simp), hb3⟩)
    clear hb3 hk3
    have v0 := B.out.2.2.cell (show (⟨1, (n : Int), []⟩ : Val).c3[0]? = _ from rfl)
    have v1 := B.out.2.2.cell (show (⟨1, (n : Int), []⟩ : Val).c3[1]? = _ from rfl)
    have v2 := B.out.2.2.cell (show (⟨1, (n : Int), []⟩ : Val).c3[2]? = _ from rfl)
    go_wp2_with (fail)
    refine (CS.out _).mono ?_
    rintro e w5 ⟨rfl, hb5⟩
    replace B := Lib.hid (B.out.step hb5)
    clear hb5 v0 v1 v2
    go_wp2_with (with_reducible refine stS 39 (.tmp 2) (.tmp 36) rfl rfl ?_)
    refine Stop.mk (wsB rfl _ _ _ rfl w.heap.size _ rfl rfl _ B.out.2.1 strVl rfl rfl (by simp [Value.oneCell']) ?_)
    intro w9 hb9 hk9
    go_wp2_with (fail)
    refine bodyPost_ret (results_B2 rfl rfl rfl hb9 strVl rfl) rfl ⟨?_, B.out.1.trans (hk9.oneB B.out.1.size (Nat.le_refl _))⟩
    rfl
set_option maxHeartbeats 2000000 in
set_option maxRecDepth 4000 in
theorem ref04_Read_text (t : List UInt8) (w : World) (hi : intR t 1099511627776 = none) (h1 : 1 < t.length) (h2 : (t[0]'(by omega)).toNat = 34) (h3 : t.length ≤ 98) : Calls Try.prog 39 #[.string (str t)] w (RetV w (valT t)) := by
  have CI := Lib.hid (fun w' => c_ref03_Int t 1099511627776 w' (by omega))
  rw [(intR_none hi).1, (intR_none hi).2] at CI
  have h0 : 0 < t.length := by omega
  have hh : t.head? = some 34 := by rw [List.head?_eq_getElem?, List.getElem?_eq_getElem h0]; congr 1; exact u8_eq h2
  have hV0 : candV t = ⟨2, 0, opn (t.drop 1)⟩ := by unfold candV; rw [hi]; exact if_pos ⟨h1, hh, h3⟩
  obtain ⟨u, hu⟩ : ∃ u, u = opn (t.drop 1) := ⟨_, rfl⟩
  have CO := Lib.hid (fun w' => show Calls Try.prog 57 #[.string (str t)] w' (RetV w' (.string (str u))) by rw [hu]; exact c_ref04_open t w' (by omega) (by omega))
  have hul : u.length ≤ 9223372036854775807 := by rw [hu]; exact Nat.le_trans (opn_len _) (by rw [List.length_drop]; omega)
  have hV : candV t = ⟨2, 0, u⟩ := by rw [hV0, hu]
  clear hV0 hh hi hu
  have RD := candV_read t
  rw [hV] at RD
  obtain ⟨SV, hSV⟩ : ∃ l, l = showV ⟨2, 0, u⟩ := ⟨_, rfl⟩
  have CS := Lib.hid (fun w' => show Calls Try.prog 58 #[.agg (⟨2, 0, u⟩ : Val).c3] w' (RetV w' (.string (str SV))) by rw [hSV]; exact c_ref04_Show ⟨2, 0, u⟩ w' hul)
  rw [← hSV] at RD
  clear hSV hV
  have d1 : decide ((1 : Int) < (t.length : Int)) = true := by rw [decide_eq_true_iff]; omega
  have d2 : (((t[0]'h0).toNat : Int) == 34) = true := by rw [beq_iff_eq]; omega
  have d3 : decide ((t.length : Int) ≤ 98) = true := by rw [decide_eq_true_iff]; omega
  clear h2
  by_cases he : SV = t
  · have j9 : (SV != t) = false := by simpa using he
    have j8 : (SV == t) = true := by simpa using he
    rw [if_pos he] at RD
    rw [valT_some RD]
    clear he RD
    go_enter Try.func39, Try.ntmps39
    have B := Lib.hid (At2.new w 39 39 vz.c3 vz.c3)
    go_wp2_with (fail)
    refine (CI.out _).mono ?_
    rintro e w1 ⟨rfl, hb1⟩
    replace B := Lib.hid (B.out.step hb1)
    clear hb1
    go_wp2_with (fail)
    refine (CO.out _).mono ?_
    rintro e w2 ⟨rfl, hb2⟩
    replace B := Lib.hid (B.out.step hb2)
    clear hb2
    go_wp2_with (with_reducible refine stS 39 (.tmp 4) (.tmp 31) rfl rfl ?_)
    refine Stop.mk (wsB rfl _ _ _ rfl (w.heap.size + 1) ((⟨2, 0, u⟩ : Val)).c3 (by first | rfl | simp) (by first | rfl | simp) _ B.out.2.2 strVl rfl rfl (by simp [Value.oneCell']) ?_)
    intro w3 hb3 hk3
    replace B := Lib.hid (show At2 w w3 vz.c3 ((⟨2, 0, u⟩ : Val)).c3 from ⟨B.out.1.trans (hk3.oneB B.out.1.size (by omega)), B.out.2.1.kept hk3 B.out.2.1.lt (by simp), hb3⟩)
    clear hb3 hk3
    have v0 := B.out.2.2.cell (show (⟨2, 0, u⟩ : Val).c3[0]? = _ from rfl)
    have v1 := B.out.2.2.cell (show (⟨2, 0, u⟩ : Val).c3[1]? = _ from rfl)
    have v2 := B.out.2.2.cell (show (⟨2, 0, u⟩ : Val).c3[2]? = _ from rfl)
    go_wp2_with (fail)
    refine (CS.out _).mono ?_
    rintro e w5 ⟨rfl, hb5⟩
    replace B := Lib.hid (B.out.step hb5)
    clear hb5 v0 v1 v2
    have v0 := B.out.2.2.cell (show (⟨2, 0, u⟩ : Val).c3[0]? = _ from rfl)
    have v1 := B.out.2.2.cell (show (⟨2, 0, u⟩ : Val).c3[1]? = _ from rfl)
    have v2 := B.out.2.2.cell (show (⟨2, 0, u⟩ : Val).c3[2]? = _ from rfl)
    go_wp2_with (with_reducible refine stS 39 (.tmp 2) (.tmp 37) rfl rfl ?_)
    refine Stop.mk (wsB rfl _ _ _ rfl w.heap.size _ rfl rfl _ B.out.2.1 strVl rfl rfl (by simp [Value.oneCell']) ?_)
    intro w9 hb9 hk9
    go_wp2_with (fail)
    refine bodyPost_ret (results_B2 rfl rfl rfl hb9 strVl rfl) rfl ⟨?_, B.out.1.trans (hk9.oneB B.out.1.size (Nat.le_refl _))⟩
    rfl
  · have j9 : (SV != t) = true := by simpa using he
    have j8 : (SV == t) = false := by simpa using he
    rw [if_neg he] at RD
    rw [valT_none RD]
    clear he RD
    go_enter Try.func39, Try.ntmps39
    have B := Lib.hid (At2.new w 39 39 vz.c3 vz.c3)
    go_wp2_with (fail)
    refine (CI.out _).mono ?_
    rintro e w1 ⟨rfl, hb1⟩
    replace B := Lib.hid (B.out.step hb1)
    clear hb1
    go_wp2_with (fail)
    refine (CO.out _).mono ?_
    rintro e w2 ⟨rfl, hb2⟩
    replace B := Lib.hid (B.out.step hb2)
    clear hb2
    go_wp2_with (with_reducible refine stS 39 (.tmp 4) (.tmp 31) rfl rfl ?_)
    refine Stop.mk (wsB rfl _ _ _ rfl (w.heap.size + 1) ((⟨2, 0, u⟩ : Val)).c3 (by first | rfl | simp) (by first | rfl | simp) _ B.out.2.2 strVl rfl rfl (by simp [Value.oneCell']) ?_)
    intro w3 hb3 hk3
    replace B := Lib.hid (show At2 w w3 vz.c3 ((⟨2, 0, u⟩ : Val)).c3 from ⟨B.out.1.trans (hk3.oneB B.out.1.size (by omega)), B.out.2.1.kept hk3 B.out.2.1.lt (by simp), hb3⟩)
    clear hb3 hk3
    have v0 := B.out.2.2.cell (show (⟨2, 0, u⟩ : Val).c3[0]? = _ from rfl)
    have v1 := B.out.2.2.cell (show (⟨2, 0, u⟩ : Val).c3[1]? = _ from rfl)
    have v2 := B.out.2.2.cell (show (⟨2, 0, u⟩ : Val).c3[2]? = _ from rfl)
    go_wp2_with (fail)
    refine (CS.out _).mono ?_
    rintro e w5 ⟨rfl, hb5⟩
    replace B := Lib.hid (B.out.step hb5)
    clear hb5 v0 v1 v2
    go_wp2_with (with_reducible refine stS 39 (.tmp 2) (.tmp 36) rfl rfl ?_)
    refine Stop.mk (wsB rfl _ _ _ rfl w.heap.size _ rfl rfl _ B.out.2.1 strVl rfl rfl (by simp [Value.oneCell']) ?_)
    intro w9 hb9 hk9
    go_wp2_with (fail)
    refine bodyPost_ret (results_B2 rfl rfl rfl hb9 strVl rfl) rfl ⟨?_, B.out.1.trans (hk9.oneB B.out.1.size (Nat.le_refl _))⟩
    rfl
set_option maxHeartbeats 2000000 in
set_option maxRecDepth 4000 in
theorem ref04_Read_short (t : List UInt8) (w : World) (hb : t.length ≤ 1000000) (hi : intR t 1099511627776 = none) (h : t.length ≤ 1) (hV : candV t = vz) : Calls Try.prog 39 #[.string (str t)] w (RetV w (valT t)) := by
  have CI := Lib.hid (fun w' => c_ref03_Int t 1099511627776 w' (by omega))
  rw [(intR_none hi).1, (intR_none hi).2] at CI
  have RD := candV_read t
  rw [hV] at RD
  obtain ⟨SV, hSV⟩ : ∃ l, l = showV vz := ⟨_, rfl⟩
  have CS := Lib.hid (fun w' => show Calls Try.prog 58 #[.agg (vz : Val).c3] w' (RetV w' (.string (str SV))) by rw [hSV]; exact c_ref04_Show vz w' (by simp))
  rw [← hSV] at RD
  clear hSV hV
  clear hi
  have d1 : decide ((1 : Int) < (t.length : Int)) = false := by rw [decide_eq_false_iff_not]; omega
  by_cases he : SV = t
  · have j9 : (SV != t) = false := by simpa using he
    have j8 : (SV == t) = true := by simpa using he
    rw [if_pos he] at RD
    rw [valT_some RD]
    clear he RD
    go_enter Try.func39, Try.ntmps39
    have B := Lib.hid (At2.new w 39 39 vz.c3 vz.c3)
    go_wp2_with (fail)
    refine (CI.out _).mono ?_
    rintro e w1 ⟨rfl, hb1⟩
    replace B := Lib.hid (B.out.step hb1)
    clear hb1
    have v0 := B.out.2.2.cell (show (vz : Val).c3[0]? = _ from rfl)
    have v1 := B.out.2.2.cell (show (vz : Val).c3[1]? = _ from rfl)
    have v2 := B.out.2.2.cell (show (vz : Val).c3[2]? = _ from rfl)
    go_wp2_with (fail)
    refine (CS.out _).mono ?_
    rintro e w5 ⟨rfl, hb5⟩
    replace B := Lib.hid (B.out.step hb5)
    clear hb5 v0 v1 v2
    have v0 := B.out.2.2.cell (show (vz : Val).c3[0]? = _ from rfl)
    have v1 := B.out.2.2.cell (show (vz : Val).c3[1]? = _ from rfl)
    have v2 := B.out.2.2.cell (show (vz : Val).c3[2]? = _ from rfl)
    go_wp2_with (with_reducible refine stS 39 (.tmp 2) (.tmp 37) rfl rfl ?_)
    refine Stop.mk (wsB rfl _ _ _ rfl w.heap.size _ rfl rfl _ B.out.2.1 strVl rfl rfl (by simp [Value.oneCell']) ?_)
    intro w9 hb9 hk9
    go_wp2_with (fail)
    refine bodyPost_ret (results_B2 rfl rfl rfl hb9 strVl rfl) rfl ⟨?_, B.out.1.trans (hk9.oneB B.out.1.size (Nat.le_refl _))⟩
    rfl
  · have j9 : (SV != t) = true := by simpa using he
    have j8 : (SV == t) = false := by simpa using he
    rw [if_neg he] at RD
    rw [valT_none RD]
    clear he RD
    go_enter Try.func39, Try.ntmps39
    have B := Lib.hid (At2.new w 39 39 vz.c3 vz.c3)
    go_wp2_with (fail)
    refine (CI.out _).mono ?_
    rintro e w1 ⟨rfl, hb1⟩
    replace B := Lib.hid (B.out.step hb1)
    clear hb1
    have v0 := B.out.2.2.cell (show (vz : Val).c3[0]? = _ from rfl)
    have v1 := B.out.2.2.cell (show (vz : Val).c3[1]? = _ from rfl)
    have v2 := B.out.2.2.cell (show (vz : Val).c3[2]? = _ from rfl)
    go_wp2_with (fail)
    refine (CS.out _).mono ?_
    rintro e w5 ⟨rfl, hb5⟩
    replace B := Lib.hid (B.out.step hb5)
    clear hb5 v0 v1 v2
    go_wp2_with (with_reducible refine stS 39 (.tmp 2) (.tmp 36) rfl rfl ?_)
    refine Stop.mk (wsB rfl _ _ _ rfl w.heap.size _ rfl rfl _ B.out.2.1 strVl rfl rfl (by simp [Value.oneCell']) ?_)
    intro w9 hb9 hk9
    go_wp2_with (fail)
    refine bodyPost_ret (results_B2 rfl rfl rfl hb9 strVl rfl) rfl ⟨?_, B.out.1.trans (hk9.oneB B.out.1.size (Nat.le_refl _))⟩
    rfl
set_option maxHeartbeats 2000000 in
set_option maxRecDepth 4000 in
theorem ref04_Read_head (t : List UInt8) (w : World) (hb : t.length ≤ 1000000) (hi : intR t 1099511627776 = none) (h1 : 1 < t.length) (h2 : (t[0]'(by omega)).toNat ≠ 34) (hV : candV t = vz) : Calls Try.prog 39 #[.string (str t)] w (RetV w (valT t)) := by
  have CI := Lib.hid (fun w' => c_ref03_Int t 1099511627776 w' (by omega))
  rw [(intR_none hi).1, (intR_none hi).2] at CI
  have RD := candV_read t
  rw [hV] at RD
  obtain ⟨SV, hSV⟩ : ∃ l, l = showV vz := ⟨_, rfl⟩
  have CS := Lib.hid (fun w' => show Calls Try.prog 58 #[.agg (vz : Val).c3] w' (RetV w' (.string (str SV))) by rw [hSV]; exact c_ref04_Show vz w' (by simp))
  rw [← hSV] at RD
  clear hSV hV
  clear hi
  have h0 : 0 < t.length := by omega
  have d1 : decide ((1 : Int) < (t.length : Int)) = true := by rw [decide_eq_true_iff]; omega
  have d2 : (((t[0]'h0).toNat : Int) == 34) = false := by rw [beq_eq_false_iff_ne]; omega
  clear h2
  by_cases he : SV = t
  · have j9 : (SV != t) = false := by simpa using he
    have j8 : (SV == t) = true := by simpa using he
    rw [if_pos he] at RD
    rw [valT_some RD]
    clear he RD
    go_enter Try.func39, Try.ntmps39
    have B := Lib.hid (At2.new w 39 39 vz.c3 vz.c3)
    go_wp2_with (fail)
    refine (CI.out _).mono ?_
    rintro e w1 ⟨rfl, hb1⟩
    replace B := Lib.hid (B.out.step hb1)
    clear hb1
    have v0 := B.out.2.2.cell (show (vz : Val).c3[0]? = _ from rfl)
    have v1 := B.out.2.2.cell (show (vz : Val).c3[1]? = _ from rfl)
    have v2 := B.out.2.2.cell (show (vz : Val).c3[2]? = _ from rfl)
    go_wp2_with (fail)
    refine (CS.out _).mono ?_
    rintro e w5 ⟨rfl, hb5⟩
    replace B := Lib.hid (B.out.step hb5)
    clear hb5 v0 v1 v2
    have v0 := B.out.2.2.cell (show (vz : Val).c3[0]? = _ from rfl)
    have v1 := B.out.2.2.cell (show (vz : Val).c3[1]? = _ from rfl)
    have v2 := B.out.2.2.cell (show (vz : Val).c3[2]? = _ from rfl)
    go_wp2_with (with_reducible refine stS 39 (.tmp 2) (.tmp 37) rfl rfl ?_)
    refine Stop.mk (wsB rfl _ _ _ rfl w.heap.size _ rfl rfl _ B.out.2.1 strVl rfl rfl (by simp [Value.oneCell']) ?_)
    intro w9 hb9 hk9
    go_wp2_with (fail)
    refine bodyPost_ret (results_B2 rfl rfl rfl hb9 strVl rfl) rfl ⟨?_, B.out.1.trans (hk9.oneB B.out.1.size (Nat.le_refl _))⟩
    rfl
  · have j9 : (SV != t) = true := by simpa using he
    have j8 : (SV == t) = false := by simpa using he
    rw [if_neg he] at RD
    rw [valT_none RD]
    clear he RD
    go_enter Try.func39, Try.ntmps39
    have B := Lib.hid (At2.new w 39 39 vz.c3 vz.c3)
    go_wp2_with (fail)
    refine (CI.out _).mono ?_
    rintro e w1 ⟨rfl, hb1⟩
    replace B := Lib.hid (B.out.step hb1)
    clear hb1
    have v0 := B.out.2.2.cell (show (vz : Val).c3[0]? = _ from rfl)
    have v1 := B.out.2.2.cell (show (vz : Val).c3[1]? = _ from rfl)
    have v2 := B.out.2.2.cell (show (vz : Val).c3[2]? = _ from rfl)
    go_wp2_with (fail)
    refine (CS.out _).mono ?_
    rintro e w5 ⟨rfl, hb5⟩
    replace B := Lib.hid (B.out.step hb5)
    clear hb5 v0 v1 v2
    go_wp2_with (with_reducible refine stS 39 (.tmp 2) (.tmp 36) rfl rfl ?_)
    refine Stop.mk (wsB rfl _ _ _ rfl w.heap.size _ rfl rfl _ B.out.2.1 strVl rfl rfl (by simp [Value.oneCell']) ?_)
    intro w9 hb9 hk9
    go_wp2_with (fail)
    refine bodyPost_ret (results_B2 rfl rfl rfl hb9 strVl rfl) rfl ⟨?_, B.out.1.trans (hk9.oneB B.out.1.size (Nat.le_refl _))⟩
    rfl
set_option maxHeartbeats 2000000 in
set_option maxRecDepth 4000 in
theorem ref04_Read_long (t : List UInt8) (w : World) (hb : t.length ≤ 1000000) (hi : intR t 1099511627776 = none) (h1 : 1 < t.length) (h2 : (t[0]'(by omega)).toNat = 34) (h3 : 98 < t.length) (hV : candV t = vz) : Calls Try.prog 39 #[.string (str t)] w (RetV w (valT t)) := by
  have CI := Lib.hid (fun w' => c_ref03_Int t 1099511627776 w' (by omega))
  rw [(intR_none hi).1, (intR_none hi).2] at CI
  have RD := candV_read t
  rw [hV] at RD
  obtain ⟨SV, hSV⟩ : ∃ l, l = showV vz := ⟨_, rfl⟩
  have CS := Lib.hid (fun w' => show Calls Try.prog 58 #[.agg (vz : Val).c3] w' (RetV w' (.string (str SV))) by rw [hSV]; exact c_ref04_Show vz w' (by simp))
  rw [← hSV] at RD
  clear hSV hV
  clear hi
  have h0 : 0 < t.length := by omega
  have d1 : decide ((1 : Int) < (t.length : Int)) = true := by rw [decide_eq_true_iff]; omega
  have d2 : (((t[0]'h0).toNat : Int) == 34) = true := by rw [beq_iff_eq]; omega
  have d3 : decide ((t.length : Int) ≤ 98) = false := by rw [decide_eq_false_iff_not]; omega
  clear h2
  by_cases he : SV = t
  · have j9 : (SV != t) = false := by simpa using he
    have j8 : (SV == t) = true := by simpa using he
    rw [if_pos he] at RD
    rw [valT_some RD]
    clear he RD
    go_enter Try.func39, Try.ntmps39
    have B := Lib.hid (At2.new w 39 39 vz.c3 vz.c3)
    go_wp2_with (fail)
    refine (CI.out _).mono ?_
    rintro e w1 ⟨rfl, hb1⟩
    replace B := Lib.hid (B.out.step hb1)
    clear hb1
    have v0 := B.out.2.2.cell (show (vz : Val).c3[0]? = _ from rfl)
    have v1 := B.out.2.2.cell (show (vz : Val).c3[1]? = _ from rfl)
    have v2 := B.out.2.2.cell (show (vz : Val).c3[2]? = _ from rfl)
    go_wp2_with (fail)
    refine (CS.out _).mono ?_
    rintro e w5 ⟨rfl, hb5⟩
    replace B := Lib.hid (B.out.step hb5)
    clear hb5 v0 v1 v2
    have v0 := B.out.2.2.cell (show (vz : Val).c3[0]? = _ from rfl)
    have v1 := B.out.2.2.cell (show (vz : Val).c3[1]? = _ from rfl)
    have v2 := B.out.2.2.cell (show (vz : Val).c3[2]? = _ from rfl)
    go_wp2_with (with_reducible refine stS 39 (.tmp 2) (.tmp 37) rfl rfl ?_)
    refine Stop.mk (wsB rfl _ _ _ rfl w.heap.size _ rfl rfl _ B.out.2.1 strVl rfl rfl (by simp [Value.oneCell']) ?_)
    intro w9 hb9 hk9
    go_wp2_with (fail)
    refine bodyPost_ret (results_B2 rfl rfl rfl hb9 strVl rfl) rfl ⟨?_, B.out.1.trans (hk9.oneB B.out.1.size (Nat.le_refl _))⟩
    rfl
  · have j9 : (SV != t) = true := by simpa using he
    have j8 : (SV == t) = false := by simpa using he
    rw [if_neg he] at RD
    rw [valT_none RD]
    clear he RD
    go_enter Try.func39, Try.ntmps39
    have B := Lib.hid (At2.new w 39 39 vz.c3 vz.c3)
    go_wp2_with (fail)
    refine (CI.out _).mono ?_
    rintro e w1 ⟨rfl, hb1⟩
    replace B := Lib.hid (B.out.step hb1)
    clear hb1
    have v0 := B.out.2.2.cell (show (vz : Val).c3[0]? = _ from rfl)
    have v1 := B.out.2.2.cell (show (vz : Val).c3[1]? = _ from rfl)
    have v2 := B.out.2.2.cell (show (vz : Val).c3[2]? = _ from rfl)
    go_wp2_with (fail)
    refine (CS.out _).mono ?_
    rintro e w5 ⟨rfl, hb5⟩
    replace B := Lib.hid (B.out.step hb5)
    clear hb5 v0 v1 v2
    go_wp2_with (with_reducible refine stS 39 (.tmp 2) (.tmp 36) rfl rfl ?_)
    refine Stop.mk (wsB rfl _ _ _ rfl w.heap.size _ rfl rfl _ B.out.2.1 strVl rfl rfl (by simp [Value.oneCell']) ?_)
    intro w9 hb9 hk9
    go_wp2_with (fail)
    refine bodyPost_ret (results_B2 rfl rfl rfl hb9 strVl rfl) rfl ⟨?_, B.out.1.trans (hk9.oneB B.out.1.size (Nat.le_refl _))⟩
    rfl
theorem c_ref04_Read (t : List UInt8) (w : World) (hb : t.length ≤ 1000000) : Calls Try.prog 39 #[.string (str t)] w (RetV w (valT t)) := by
  cases hi : intR t 1099511627776 with
  | some n => exact ref04_Read_num t n w hb hi
  | none =>
    by_cases h1 : 1 < t.length
    · by_cases h2 : (t[0]'(by omega)).toNat = 34
      · by_cases h3 : t.length ≤ 98
        · exact ref04_Read_text t w hi h1 h2 h3
        · exact ref04_Read_long t w hb hi h1 h2 (by omega) (by unfold candV; rw [hi]; exact if_neg (fun h => h3 h.2.2))
      · exact ref04_Read_head t w hb hi h1 h2 (by
          unfold candV; rw [hi]
          refine if_neg (fun h => h2 ?_)
          have h4 := h.2.1
          rw [List.head?_eq_getElem?, List.getElem?_eq_getElem (by omega)] at h4
          injection h4 with h4
          rw [h4]; rfl)
    · exact ref04_Read_short t w hb hi (by omega) (by unfold candV; rw [hi]; exact if_neg (fun h => h1 h.1))
end Go.Proofs.Ytbidnflcbgnckaa
namespace Go.Proofs.Ytbidnflcbgnckaa
open Go.RowKit

theorem strWr : Str Try.prog 35 4 := ⟨⟨_, Try.underlying35, rfl⟩, by kernel_rfl⟩
theorem qt_shift (n : Nat) : ∀ (l : List UInt8) (k j : Nat), l.length ≤ n → 1 ≤ k → qt l (k + j) = if qt l k = 0 then 0 else qt l k + j := by
  induction n using Nat.strongRecOn with
  | _ n ih =>
    intro l k j hl hk
    cases l with
    | nil => rw [qt_none, qt_none]; rfl
    | cons c r =>
      by_cases h1 : c.toNat = 34
      · rw [qt_34 h1, qt_34 h1, if_neg (by omega)]; omega
      · by_cases h2 : c.toNat = 92
        · rw [qt_92 h2, qt_92 h2]
          have hr : (r.drop 1).length ≤ n - 1 := by rw [List.length_drop]; simp at hl; omega
          have := ih (n - 1) (by simp at hl; omega) (r.drop 1) (k + 2) j hr (by omega)
          rw [show k + j + 2 = k + 2 + j by omega]; exact this
        · rw [qt_other h1 h2, qt_other h1 h2]
          have hr : r.length ≤ n - 1 := by simp at hl; omega
          have := ih (n - 1) (by simp at hl; omega) r (k + 1) j hr (by omega)
          rw [show k + j + 1 = k + 1 + j by omega]; exact this
set_option maxHeartbeats 4000000 in
set_option maxRecDepth 4000 in
theorem c_ref09_one (s : List UInt8) (p : Nat) (w : World) (hs : s.length ≤ 1000) (hp : p < s.length) : Calls Try.prog 18 #[.string (str s), .int .i64 p] w (RetV w (fstT (fst (s.drop p)) p p)) := by
  have B0 := Lib.hid (At.new w 35 (wdA 0 0 0 []))
  have hc := s[p].toNat_lt
  have hd := List.drop_eq_getElem_cons hp
  have hdl : (s.drop p).length ≤ 1000 := by rw [List.length_drop]; omega
  by_cases g1 : 97 ≤ s[p].toNat ∧ s[p].toNat ≤ 122
  · have hl := run_le 97 122 (s.drop p)
    have CR := Lib.hid (fun w' => show Calls Try.prog 36 #[.string (str s), .int .i64 p, .int .u8 97, .int .u8 122] w' (RetV w' (.int .i64 ((p + run 97 122 (s.drop p) : Nat) : Int))) from c_ref09_run s p 97 122 w' (by omega) (by omega))
    have F : fst (s.drop p) = some ⟨1, 0, (s.drop p).take (run 97 122 (s.drop p)), run 97 122 (s.drop p)⟩ := by rw [hd]; exact fst_letters g1
    obtain ⟨m, hm⟩ : ∃ m, m = run 97 122 (s.drop p) := ⟨_, rfl⟩
    rw [← hm] at CR F hl
    rw [List.length_drop] at hl
    have E := Lib.hid (congrArg (fun o => fstT o p p) F)
    have j1 : decide ((97 : Int) ≤ (s[p].toNat : Int)) = true := by rw [decide_eq_true_iff]; omega
    have j2 : decide ((s[p].toNat : Int) ≤ 122) = true := by rw [decide_eq_true_iff]; omega
    clear g1 F hm hd
    go_enter Try.func18, Try.ntmps18
    go_wp2_with (fail)
    refine (CR.out _).mono ?_
    rintro e w1 ⟨rfl, hb1⟩
    replace B0 := Lib.hid (B0.out.step hb1)
    clear hb1
    go_wp2_with (with_reducible refine stS 35 (.tmp 4) (.tmp 31) rfl rfl ?_)
    refine Stop.mk (wsB rfl _ _ _ rfl w.heap.size _ rfl rfl _ B0.out.2 strWr rfl rfl (by simp [Value.oneCell']) ?_)
    intro w9 hb9 hk9
    go_wp2_with (fail)
    refine bodyPost_ret (results_B2 rfl rfl rfl hb9 strWr rfl) rfl ⟨?_, B0.out.1.trans (hk9.oneB B0.out.1.size (Nat.le_refl _))⟩
    rw [E.out]
    simp [fstT]
  · by_cases g2 : 48 ≤ s[p].toNat ∧ s[p].toNat ≤ 57
    · have hl := run_le 48 57 (s.drop p)
      have CR := Lib.hid (fun w' => show Calls Try.prog 36 #[.string (str s), .int .i64 p, .int .u8 48, .int .u8 57] w' (RetV w' (.int .i64 ((p + run 48 57 (s.drop p) : Nat) : Int))) from c_ref09_run s p 48 57 w' (by omega) (by omega))
      have F : fst (s.drop p) = (intR ((s.drop p).take (run 48 57 (s.drop p))) 1099511627776).map fun (v : Nat) => (⟨2, (v : Int), [], run 48 57 (s.drop p)⟩ : Fst) := by rw [hd]; exact fst_digits g2
      obtain ⟨m, hm⟩ : ∃ m, m = run 48 57 (s.drop p) := ⟨_, rfl⟩
      rw [← hm] at CR F hl
      rw [List.length_drop] at hl
      have j1 : decide ((97 : Int) ≤ (s[p].toNat : Int)) = false := by rw [decide_eq_false_iff_not]; omega
      have j2 : decide ((48 : Int) ≤ (s[p].toNat : Int)) = true := by rw [decide_eq_true_iff]; omega
      have j3 : decide ((s[p].toNat : Int) ≤ 57) = true := by rw [decide_eq_true_iff]; omega
      have CI := Lib.hid (fun w' => c_ref03_Int ((s.drop p).take m) 1099511627776 w' (by rw [List.length_take]; omega))
      clear g1 g2 hm hd
      cases hi : intR ((s.drop p).take m) 1099511627776 with
      | some v =>
        rw [hi] at F
        rw [(intR_some hi).1, (intR_some hi).2] at CI
        have E := Lib.hid (congrArg (fun o => fstT o p p) F)
        clear F hi
        go_enter Try.func18, Try.ntmps18
        go_wp2_with (fail)
        refine (CR.out _).mono ?_
        rintro e w1 ⟨rfl, hb1⟩
        replace B0 := Lib.hid (B0.out.step hb1)
        clear hb1
        go_wp2_with (fail)
        refine (CI.out _).mono ?_
        rintro e w2 ⟨rfl, hb2⟩
        replace B0 := Lib.hid (B0.out.step hb2)
        clear hb2
        go_wp2_with (with_reducible refine stS 35 (.tmp 4) (.tmp 55) rfl rfl ?_)
        refine Stop.mk (wsB rfl _ _ _ rfl w.heap.size _ rfl rfl _ B0.out.2 strWr rfl rfl (by simp [Value.oneCell']) ?_)
        intro w9 hb9 hk9
        go_wp2_with (fail)
        refine bodyPost_ret (results_B2 rfl rfl rfl hb9 strWr rfl) rfl ⟨?_, B0.out.1.trans (hk9.oneB B0.out.1.size (Nat.le_refl _))⟩
        rw [E.out]
        simp [fstT]
      | none =>
        rw [hi] at F
        rw [(intR_none hi).1, (intR_none hi).2] at CI
        have E := Lib.hid (congrArg (fun o => fstT o p p) F)
        clear F hi
        go_enter Try.func18, Try.ntmps18
        go_wp2_with (fail)
        refine (CR.out _).mono ?_
        rintro e w1 ⟨rfl, hb1⟩
        replace B0 := Lib.hid (B0.out.step hb1)
        clear hb1
        go_wp2_with (fail)
        refine (CI.out _).mono ?_
        rintro e w2 ⟨rfl, hb2⟩
        replace B0 := Lib.hid (B0.out.step hb2)
        clear hb2
        go_wp2_with (with_reducible refine stS 35 (.tmp 4) (.tmp 52) rfl rfl ?_)
        refine Stop.mk (wsB rfl _ _ _ rfl w.heap.size _ rfl rfl _ B0.out.2 strWr rfl rfl (by simp [Value.oneCell']) ?_)
        intro w9 hb9 hk9
        go_wp2_with (fail)
        refine bodyPost_ret (results_B2 rfl rfl rfl hb9 strWr rfl) rfl ⟨?_, B0.out.1.trans (hk9.oneB B0.out.1.size (Nat.le_refl _))⟩
        rw [E.out]
        simp [fstT]
    · by_cases g3 : s[p].toNat = 34
      · have hl := qt_le (s.drop (p + 1)).length (s.drop (p + 1)) 1 (Nat.le_refl _)
        rw [List.length_drop] at hl
        have F : fst (s.drop p) = match valR ((s.drop p).take (qt (s.drop (p + 1)) 1)) with | some v => some ⟨3, 0, v.s, qt (s.drop (p + 1)) 1⟩ | none => none := by rw [hd]; exact fst_quoted g3
        have SH := qt_shift _ (s.drop (p + 1)) 1 p (Nat.le_refl _) (Nat.le_refl _)
        have CQ0 := fun w' => c_ref09_quote s p w' (by omega) (by omega)
        rw [show p + 1 = 1 + p by omega] at CQ0
        obtain ⟨m, hm⟩ : ∃ m, m = qt (s.drop (1 + p)) 1 := ⟨_, rfl⟩
        rw [show p + 1 = 1 + p by omega] at SH F hl
        rw [← hm] at SH F hl
        have j1 : decide ((97 : Int) ≤ (s[p].toNat : Int)) = false := by rw [decide_eq_false_iff_not]; omega
        have j2 : decide ((48 : Int) ≤ (s[p].toNat : Int)) = false := by rw [decide_eq_false_iff_not]; omega
        have j3 : ((s[p].toNat : Int) == 34) = true := by rw [beq_iff_eq]; omega
        by_cases h0 : m = 0
        · have hq0 : qt (s.drop (1 + p)) (1 + p) = 0 := by rw [SH, if_pos h0]
          have CQ := Lib.hid (fun w' => show Calls Try.prog 38 #[.string (str s), .int .i64 p] w' (RetV w' (.int .i64 0)) by have := CQ0 w'; rw [hq0] at this; exact this)
          rw [h0, List.take_zero, valR_nil] at F
          have E := Lib.hid (congrArg (fun o => fstT o p p) F)
          clear F CQ0 SH hm h0 hq0 hd g1 g2 g3 hl
          go_enter Try.func18, Try.ntmps18
          go_wp2_with (fail)
          refine (CQ.out _).mono ?_
          rintro e w1 ⟨rfl, hb1⟩
          replace B0 := Lib.hid (B0.out.step hb1)
          clear hb1
          go_wp2_with (with_reducible refine stS 35 (.tmp 4) (.tmp 64) rfl rfl ?_)
          refine Stop.mk (wsB rfl _ _ _ rfl w.heap.size _ rfl rfl _ B0.out.2 strWr rfl rfl (by simp [Value.oneCell']) ?_)
          intro w9 hb9 hk9
          go_wp2_with (fail)
          refine bodyPost_ret (results_B2 rfl rfl rfl hb9 strWr rfl) rfl ⟨?_, B0.out.1.trans (hk9.oneB B0.out.1.size (Nat.le_refl _))⟩
          rw [E.out]
          simp [fstT]
        · have hq0 : qt (s.drop (1 + p)) (1 + p) = p + m := by rw [SH, if_neg h0]; omega
          have CQ := Lib.hid (fun w' => show Calls Try.prog 38 #[.string (str s), .int .i64 p] w' (RetV w' (.int .i64 ((p + m : Nat) : Int))) by have := CQ0 w'; rw [hq0] at this; exact this)
          have k1 : ((p : Int) + (m : Int) == 0) = false := by rw [beq_eq_false_iff_ne]; omega
          have hl' : p + m ≤ s.length := by omega
          have CV := Lib.hid (fun w' => c_ref04_Read ((s.drop p).take m) w' (by rw [List.length_take]; omega))
          clear CQ0 SH hm h0 hq0 hd g1 g2 g3 hl
          cases hv : valR ((s.drop p).take m) with
          | some v =>
            rw [hv] at F
            rw [valT_some hv] at CV
            have E := Lib.hid (congrArg (fun o => fstT o p p) F)
            clear F hv
            go_enter Try.func18, Try.ntmps18
            go_wp2_with (fail)
            refine (CQ.out _).mono ?_
            rintro e w1 ⟨rfl, hb1⟩
            replace B0 := Lib.hid (B0.out.step hb1)
            clear hb1
            go_wp2_with (fail)
            refine (CV.out _).mono ?_
            rintro e w2 ⟨rfl, hb2⟩
            replace B0 := Lib.hid (B0.out.step hb2)
            clear hb2
            go_wp2_with (with_reducible refine stS 39 (.tmp 12) (.tmp 71) rfl rfl ?_)
            refine Stop.mk (wsB rfl _ _ _ rfl w2.heap.size v.c3 rfl rfl _ (Blk.new _ _ _) strVl rfl rfl (by simp [Value.oneCell']) ?_)
            intro w3 hb3 hk3
            replace B0 := Lib.hid (B0.out.step (fresh_below hk3))
            have q2 := hb3.cell (show v.c3[2]? = _ from rfl)
            have hlt := hb3.lt
            clear hb3 hk3
            go_wp2_with (with_reducible refine stS 35 (.tmp 4) (.tmp 79) rfl rfl ?_)
            refine Stop.mk (wsB rfl _ _ _ rfl w.heap.size _ rfl rfl _ B0.out.2 strWr rfl rfl (by simp [Value.oneCell']) ?_)
            intro w9 hb9 hk9
            go_wp2_with (fail)
            refine bodyPost_ret (results_B2 rfl rfl rfl hb9 strWr rfl) rfl ⟨?_, B0.out.1.trans (hk9.oneB B0.out.1.size (Nat.le_refl _))⟩
            rw [E.out]
            simp [fstT]
          | none =>
            rw [hv] at F
            rw [valT_none hv] at CV
            have E := Lib.hid (congrArg (fun o => fstT o p p) F)
            clear F hv
            go_enter Try.func18, Try.ntmps18
            go_wp2_with (fail)
            refine (CQ.out _).mono ?_
            rintro e w1 ⟨rfl, hb1⟩
            replace B0 := Lib.hid (B0.out.step hb1)
            clear hb1
            go_wp2_with (fail)
            refine (CV.out _).mono ?_
            rintro e w2 ⟨rfl, hb2⟩
            replace B0 := Lib.hid (B0.out.step hb2)
            clear hb2
            go_wp2_with (with_reducible refine stS 39 (.tmp 12) (.tmp 71) rfl rfl ?_)
            refine Stop.mk (wsB rfl _ _ _ rfl w2.heap.size vz.c3 rfl rfl _ (Blk.new _ _ _) strVl rfl rfl (by simp [Value.oneCell']) ?_)
            intro w3 hb3 hk3
            replace B0 := Lib.hid (B0.out.step (fresh_below hk3))
            clear hb3 hk3
            go_wp2_with (with_reducible refine stS 35 (.tmp 4) (.tmp 75) rfl rfl ?_)
            refine Stop.mk (wsB rfl _ _ _ rfl w.heap.size _ rfl rfl _ B0.out.2 strWr rfl rfl (by simp [Value.oneCell']) ?_)
            intro w9 hb9 hk9
            go_wp2_with (fail)
            refine bodyPost_ret (results_B2 rfl rfl rfl hb9 strWr rfl) rfl ⟨?_, B0.out.1.trans (hk9.oneB B0.out.1.size (Nat.le_refl _))⟩
            rw [E.out]
            simp [fstT]
      · have F : fst (s.drop p) = if sign s[p] then some ⟨4, 0, [s[p]], 1⟩ else none := by rw [hd]; exact fst_other g1 g2 g3
        have h1 : List.take 1 (List.drop p s) = [s[p]] := by rw [hd]; rfl
        have j0 : ((s[p].toNat : Int) == 34) = false := by rw [beq_eq_false_iff_ne]; omega
        have CX := Lib.hid (fun w' => c_ref09_sign s[p] w')
        have hcs : s[p].toNat < 48 ∨ (57 < s[p].toNat ∧ s[p].toNat < 97) ∨ 122 < s[p].toNat := by omega
        clear g1 g2 g3 hd
        cases hsg : sign s[p]
        case true =>
          rw [hsg] at F CX
          have E := Lib.hid (congrArg (fun o => fstT o p p) F)
          clear F hsg
          rcases hcs with g | g | g
          · have j1 : decide ((97 : Int) ≤ (s[p].toNat : Int)) = false := by rw [decide_eq_false_iff_not]; omega
            have j2 : decide ((48 : Int) ≤ (s[p].toNat : Int)) = false := by rw [decide_eq_false_iff_not]; omega
            clear g
            go_enter Try.func18, Try.ntmps18
            go_wp2_with (fail)
            refine (CX.out _).mono ?_
            rintro e w1 ⟨rfl, hb1⟩
            replace B0 := Lib.hid (B0.out.step hb1)
            clear hb1
            go_wp2_with (with_reducible refine stS 35 (.tmp 4) (.tmp 89) rfl rfl ?_)
            refine Stop.mk (wsB rfl _ _ _ rfl w.heap.size _ rfl rfl _ B0.out.2 strWr rfl rfl (by simp [Value.oneCell']) ?_)
            intro w9 hb9 hk9
            go_wp2_with (fail)
            refine bodyPost_ret (results_B2 rfl rfl rfl hb9 strWr rfl) rfl ⟨?_, B0.out.1.trans (hk9.oneB B0.out.1.size (Nat.le_refl _))⟩
            rw [E.out]
            simp [fstT]
          · have j1 : decide ((97 : Int) ≤ (s[p].toNat : Int)) = false := by rw [decide_eq_false_iff_not]; omega
            have j2 : decide ((48 : Int) ≤ (s[p].toNat : Int)) = true := by rw [decide_eq_true_iff]; omega
            have j3 : decide ((s[p].toNat : Int) ≤ 57) = false := by rw [decide_eq_false_iff_not]; omega
            clear g
            go_enter Try.func18, Try.ntmps18
            go_wp2_with (fail)
            refine (CX.out _).mono ?_
            rintro e w1 ⟨rfl, hb1⟩
            replace B0 := Lib.hid (B0.out.step hb1)
            clear hb1
            go_wp2_with (with_reducible refine stS 35 (.tmp 4) (.tmp 89) rfl rfl ?_)
            refine Stop.mk (wsB rfl _ _ _ rfl w.heap.size _ rfl rfl _ B0.out.2 strWr rfl rfl (by simp [Value.oneCell']) ?_)
            intro w9 hb9 hk9
            go_wp2_with (fail)
            refine bodyPost_ret (results_B2 rfl rfl rfl hb9 strWr rfl) rfl ⟨?_, B0.out.1.trans (hk9.oneB B0.out.1.size (Nat.le_refl _))⟩
            rw [E.out]
            simp [fstT]
          · have j1 : decide ((97 : Int) ≤ (s[p].toNat : Int)) = true := by rw [decide_eq_true_iff]; omega
            have j2 : decide ((48 : Int) ≤ (s[p].toNat : Int)) = true := by rw [decide_eq_true_iff]; omega
            have j3 : decide ((s[p].toNat : Int) ≤ 122) = false := by rw [decide_eq_false_iff_not]; omega
            have j4 : decide ((s[p].toNat : Int) ≤ 57) = false := by rw [decide_eq_false_iff_not]; omega
            clear g
            go_enter Try.func18, Try.ntmps18
            go_wp2_with (fail)
            refine (CX.out _).mono ?_
            rintro e w1 ⟨rfl, hb1⟩
            replace B0 := Lib.hid (B0.out.step hb1)
            clear hb1
            go_wp2_with (with_reducible refine stS 35 (.tmp 4) (.tmp 89) rfl rfl ?_)
            refine Stop.mk (wsB rfl _ _ _ rfl w.heap.size _ rfl rfl _ B0.out.2 strWr rfl rfl (by simp [Value.oneCell']) ?_)
            intro w9 hb9 hk9
            go_wp2_with (fail)
            refine bodyPost_ret (results_B2 rfl rfl rfl hb9 strWr rfl) rfl ⟨?_, B0.out.1.trans (hk9.oneB B0.out.1.size (Nat.le_refl _))⟩
            rw [E.out]
            simp [fstT]
        case false =>
          rw [hsg] at F CX
          have E := Lib.hid (congrArg (fun o => fstT o p p) F)
          clear F hsg
          rcases hcs with g | g | g
          · have j1 : decide ((97 : Int) ≤ (s[p].toNat : Int)) = false := by rw [decide_eq_false_iff_not]; omega
            have j2 : decide ((48 : Int) ≤ (s[p].toNat : Int)) = false := by rw [decide_eq_false_iff_not]; omega
            clear g
            go_enter Try.func18, Try.ntmps18
            go_wp2_with (fail)
            refine (CX.out _).mono ?_
            rintro e w1 ⟨rfl, hb1⟩
            replace B0 := Lib.hid (B0.out.step hb1)
            clear hb1
            go_wp2_with (with_reducible refine stS 35 (.tmp 4) (.tmp 92) rfl rfl ?_)
            refine Stop.mk (wsB rfl _ _ _ rfl w.heap.size _ rfl rfl _ B0.out.2 strWr rfl rfl (by simp [Value.oneCell']) ?_)
            intro w9 hb9 hk9
            go_wp2_with (fail)
            refine bodyPost_ret (results_B2 rfl rfl rfl hb9 strWr rfl) rfl ⟨?_, B0.out.1.trans (hk9.oneB B0.out.1.size (Nat.le_refl _))⟩
            rw [E.out]
            simp [fstT]
          · have j1 : decide ((97 : Int) ≤ (s[p].toNat : Int)) = false := by rw [decide_eq_false_iff_not]; omega
            have j2 : decide ((48 : Int) ≤ (s[p].toNat : Int)) = true := by rw [decide_eq_true_iff]; omega
            have j3 : decide ((s[p].toNat : Int) ≤ 57) = false := by rw [decide_eq_false_iff_not]; omega
            clear g
            go_enter Try.func18, Try.ntmps18
            go_wp2_with (fail)
            refine (CX.out _).mono ?_
            rintro e w1 ⟨rfl, hb1⟩
            replace B0 := Lib.hid (B0.out.step hb1)
            clear hb1
            go_wp2_with (with_reducible refine stS 35 (.tmp 4) (.tmp 92) rfl rfl ?_)
            refine Stop.mk (wsB rfl _ _ _ rfl w.heap.size _ rfl rfl _ B0.out.2 strWr rfl rfl (by simp [Value.oneCell']) ?_)
            intro w9 hb9 hk9
            go_wp2_with (fail)
            refine bodyPost_ret (results_B2 rfl rfl rfl hb9 strWr rfl) rfl ⟨?_, B0.out.1.trans (hk9.oneB B0.out.1.size (Nat.le_refl _))⟩
            rw [E.out]
            simp [fstT]
          · have j1 : decide ((97 : Int) ≤ (s[p].toNat : Int)) = true := by rw [decide_eq_true_iff]; omega
            have j2 : decide ((48 : Int) ≤ (s[p].toNat : Int)) = true := by rw [decide_eq_true_iff]; omega
            have j3 : decide ((s[p].toNat : Int) ≤ 122) = false := by rw [decide_eq_false_iff_not]; omega
            have j4 : decide ((s[p].toNat : Int) ≤ 57) = false := by rw [decide_eq_false_iff_not]; omega
            clear g
            go_enter Try.func18, Try.ntmps18
            go_wp2_with (fail)
            refine (CX.out _).mono ?_
            rintro e w1 ⟨rfl, hb1⟩
            replace B0 := Lib.hid (B0.out.step hb1)
            clear hb1
            go_wp2_with (with_reducible refine stS 35 (.tmp 4) (.tmp 92) rfl rfl ?_)
            refine Stop.mk (wsB rfl _ _ _ rfl w.heap.size _ rfl rfl _ B0.out.2 strWr rfl rfl (by simp [Value.oneCell']) ?_)
            intro w9 hb9 hk9
            go_wp2_with (fail)
            refine bodyPost_ret (results_B2 rfl rfl rfl hb9 strWr rfl) rfl ⟨?_, B0.out.1.trans (hk9.oneB B0.out.1.size (Nat.le_refl _))⟩
            rw [E.out]
            simp [fstT]
end Go.Proofs.Ytbidnflcbgnckaa
namespace Go.Proofs.Ytbidnflcbgnckaa
open Go.RowKit

theorem elemWr : Elem Try.prog 30 35 4 40 := Elem.mk' (z := .agg (wdA 0 0 0 [])) Try.underlying30 (by kernel_rfl) rfl (by omega) (by omega)
set_option maxHeartbeats 400000 in
theorem ref09_All_long (s : List UInt8) (w : World) (h : 1000 < s.length) (hs : s.length ≤ 9223372036854775807) : Calls Try.prog 9 #[.string (str s)] w (RetAll 35 w s) := by
  have d1 : decide ((1000 : Int) < (s.length : Int)) = true := by rw [decide_eq_true_iff]; omega
  go_enter Try.func9, Try.ntmps9
  go_wp2_with (fail)
  go_ret3
  exact ⟨(by repeat (first | exact Below.refl _ _ | refine Below.drew ?_ | refine Below.alloc ?_ (by first | omega | (simp; done) | (simp; omega)) _ | refine Below.setCell ?_ (by first | omega | (simp; done) | (simp; omega)) _ | refine Below.trans ?_ (Below.mono (by assumption) (by first | omega | (simp; done) | (simp; omega))))), .inl ⟨h, rfl⟩⟩
set_option maxHeartbeats 4000000 in
set_option maxRecDepth 4000 in
theorem ref09_All_in (s : List UInt8) (w : World) (hs : s.length ≤ 1000) : Calls Try.prog 9 #[.string (str s)] w (RetAll 35 w s) := by
  have d1 : decide ((1000 : Int) < (s.length : Int)) = false := by rw [decide_eq_false_iff_not]; omega
  go_enter Try.func9, Try.ntmps9
  go_wp2_with (fail)
  go_loopw [5, 6] (fun v i wr => ∃ (k : Nat) (acc : List Wd) (v0 : Value), v = v0 ∧ i = .int .i64 k ∧ Hid (LexAt s acc k) ∧ Hid (wr.ownsRow w.heap.size 35 4 v acc.length (acc.flatMap Wd.cells)) ∧ Hid (Below w.heap.size w wr))
    (fun _ i _ => s.length - (intOf i).toNat)
  case atStart => exact ⟨0, [], _, rfl, rfl, LexAt.start s, World.ownsRow_lit w #[] 0 (Nat.le_refl _) (by unfold maxLen; omega) (by simp), (by repeat (first | exact Below.refl _ _ | refine Below.drew ?_ | refine Below.alloc ?_ (by first | omega | (simp; done) | (simp; omega)) _ | refine Below.setCell ?_ (by first | omega | (simp; done) | (simp; omega)) _ | refine Below.trans ?_ (Below.mono (by assumption) (by first | omega | (simp; done) | (simp; omega)))))⟩
  case round =>
    obtain ⟨k, acc, v0, rfl, rfl, H, O, B1⟩ := hrel
    obtain ⟨A9, c9, rfl, -, -⟩ := own_form O.out
    have hz := B1.out.size
    have hkl := H.out.2.1
    have hal := H.out.2.2
    by_cases hlt : k < s.length
    · have dl : decide (k < s.length) = true := by simpa using hlt
      by_cases g1 : s[k].toNat = 32
      · have j1 : ((s[k].toNat : Int) == 32) = true := by rw [beq_iff_eq]; omega
        have H2 := Lib.hid (H.out.blank hlt g1)
        clear H g1
        go_wp2_with (fail)
        go_roundw
        case rel => exact ⟨k + 1, acc, _, rfl, by go_num, H2.out, O.out, B1.out⟩
        case measure => simp [intOf]; omega
      · have j1 : ((s[k].toNat : Int) == 32) = false := by rw [beq_eq_false_iff_ne]; omega
        have HC := Lib.hid g1
        clear g1
        have CF := Lib.hid (fun w' => c_ref09_one s k w' hs hlt)
        cases hf : fst (s.drop k) with
        | none =>
          rw [hf] at CF
          have H2 := Lib.hid (H.out.bad hlt HC.out hf)
          clear hf H
          go_wp2_with (fail)
          refine (CF.out _).mono ?_
          rintro e w1 ⟨rfl, hb1⟩
          replace B1 := Lib.hid (B1.out.trans (hb1.mono hz))
          clear hb1 hz
          unfold fstT
          go_wp2_with (with_reducible refine stS 35 (.tmp 7) (.tmp 27) rfl rfl ?_)
          refine Stop.mk (wsB rfl _ _ _ rfl w1.heap.size (wdA 0 0 0 []) rfl rfl _ (Blk.new _ _ _) strWr rfl rfl (by simp [Value.oneCell']) ?_)
          intro w3 hb3 hk3
          replace B1 := Lib.hid (B1.out.trans ((fresh_below hk3).mono B1.out.size))
          clear hb3 hk3
          go_wp2_with (fail)
          go_ret3
          exact ⟨B1.out, .inr ⟨hs, .inl ⟨k, H2.out, rfl⟩⟩⟩
        | some x =>
          rw [hf] at CF
          have H2 := Lib.hid (H.out.word hlt HC.out hf)
          have hl0 := H2.out.2.1
          have hl1 := H2.out.2.2
          obtain ⟨xk, xn, xs, xl⟩ := x
          have hl0' : 0 < xl := hl0
          have hl1' : k + xl ≤ s.length := hl1
          have j2 : ((k : Int) + (xl : Int) == 0) = false := by rw [beq_eq_false_iff_ne]; omega
          clear hf H hl0 hl1
          go_wp2_with (fail)
          refine (CF.out _).mono ?_
          rintro e w1 ⟨rfl, hb1⟩
          replace O := Lib.hid (own_below O.out hb1)
          replace B1 := Lib.hid (B1.out.trans (hb1.mono hz))
          clear hb1 hz
          unfold fstT
          go_wp2_with (with_reducible refine stS 35 (.tmp 7) (.tmp 27) rfl rfl ?_)
          refine Stop.mk (wsB rfl _ _ _ rfl w1.heap.size (wdA xk xn k xs) rfl rfl _ (Blk.new _ _ _) strWr rfl rfl (by simp [Value.oneCell']) ?_)
          intro w3 hb3 hk3
          replace O := Lib.hid (own_below O.out (fresh_below hk3))
          replace B1 := Lib.hid (B1.out.trans ((fresh_below hk3).mono B1.out.size))
          obtain ⟨p, hp⟩ : ∃ p, p = w1.heap.size := ⟨_, rfl⟩
          rw [← hp] at hb3 ⊢
          have BP := Lib.hid hb3
          clear hb3 hk3 hp
          go_wp2_with (with_reducible refine stop_load 35 (.tmp 7) rfl rfl ?_)
          refine Stop.mk (wpList_loadB rfl _ _ rfl p rfl _ BP.out strWr rfl ?_)
          go_wp2_with ((at_builtin; refine Stop.out ?_))
          refine Stop.mk (wpList_app _ rfl _ _ elemWr rfl w.heap.size (.slice A9 acc.length c9) acc.length _ rfl (own_below O.out ((Below.refl _ _).alloc (Nat.le_refl _) _)) _ 1 1 (Wd.cells ⟨xk, xn, k, xs⟩) rfl (Src.new _ (Wd.cells ⟨xk, xn, k, xs⟩) _ 4 rfl) (by simpa using wds_one [⟨xk, xn, k, xs⟩]) (by omega) (by have := B1.out.size; simp at this ⊢; omega) ?_)
          intro v4 w4 own4 _ hb4 _
          have B4 := Lib.hid (B1.out.trans ((((Below.refl _ _).alloc B1.out.size _)).trans hb4))
          have O4 := Lib.hid (show w4.ownsRow w.heap.size 35 4 v4 ((acc ++ [(⟨xk, xn, k, xs⟩ : Wd)]).length) ((acc ++ [(⟨xk, xn, k, xs⟩ : Wd)]).flatMap Wd.cells) by simpa using own4)
          have H3 := Lib.hid H2.out.1
          clear own4 hb4
          go_wp2_with (fail)
          go_roundw
          case rel => exact ⟨k + xl, _, _, rfl, by go_num, H3.out, O4.out, B4.out⟩
          case measure => simp [intOf]; omega
    · have dl : decide (k < s.length) = false := by simpa using hlt
      obtain rfl : k = s.length := by omega
      have HD := Lib.hid H.out.done
      clear H hlt
      go_wp2_with (fail)
      go_ret3
      exact ⟨B1.out, .inr ⟨hs, .inr ⟨_, acc, HD.out, rfl, O.out⟩⟩⟩
theorem c_ref09_All (s : List UInt8) (w : World) (hs : s.length ≤ 9223372036854775807) : Calls Try.prog 9 #[.string (str s)] w (RetAll 35 w s) := by
  by_cases h : 1000 < s.length
  · exact ref09_All_long s w h hs
  · exact ref09_All_in s w (by omega)
end Go.Proofs.Ytbidnflcbgnckaa
namespace Go.Proofs.Ytbidnflcbgnckaa
open Go.RowKit

set_option maxHeartbeats 1000000 in
theorem c_ref09_Text (k n p : Int) (s : List UInt8) (w : World) (hn : k = 2 → 0 ≤ n ∧ n ≤ 1099511627776) (hs : s.length ≤ 1000000) : Calls Try.prog 10 #[.agg (wdA k n p s)] w (RetV w (.string (str (wText k n s)))) := by
  have B0 := Lib.hid (At.new w 35 (wdA k n p s))
  have q0 := B0.out.2.cell (show (wdA k n p s)[0]? = _ from rfl)
  have q1 := B0.out.2.cell (show (wdA k n p s)[1]? = _ from rfl)
  have q3 := B0.out.2.cell (show (wdA k n p s)[3]? = _ from rfl)
  have hcs : k = 2 ∨ (k ≠ 2 ∧ k = 3) ∨ (k ≠ 2 ∧ k ≠ 3) := by omega
  rcases hcs with g | ⟨g, g'⟩ | ⟨g, g'⟩
  · obtain ⟨b0, b1⟩ := hn g
    obtain ⟨m, hm⟩ : ∃ m : Nat, n = m := ⟨n.toNat, by omega⟩
    have E := Lib.hid (show wText k n s = tens m by unfold wText; rw [if_pos g, hm]; rfl)
    have CT := Lib.hid (fun w' => show Calls Try.prog 19 #[.int .i64 n] w' (RetV w' (.string (str (tens m)))) by rw [hm]; exact c_ref03_Tens m (by omega) w')
    have j1 : (k == 2) = true := by simpa using g
    clear g hn hm b0 b1
    rw [E.out]
    go_enter Try.func10, Try.ntmps10
    go_wp2_with (fail)
    refine (CT.out _).mono ?_
    rintro e w2 ⟨rfl, hb2⟩
    go_wp2_with (fail)
    go_ret
    exact RetV.of rfl (B0.out.1.trans (hb2.mono B0.out.1.size))
  · have E := Lib.hid (show wText k n s = quote s by unfold wText; rw [if_neg g, if_pos g'])
    have CQ := Lib.hid (fun w' => c_ref04_Quote s w' hs)
    have j1 : (k == 2) = false := by simpa using g
    have j2 : (k == 3) = true := by simpa using g'
    clear g g' hn
    rw [E.out]
    go_enter Try.func10, Try.ntmps10
    go_wp2_with (fail)
    refine (CQ.out _).mono ?_
    rintro e w2 ⟨rfl, hb2⟩
    go_wp2_with (fail)
    go_ret
    exact RetV.of rfl (B0.out.1.trans (hb2.mono B0.out.1.size))
  · have E := Lib.hid (show wText k n s = s by unfold wText; rw [if_neg g, if_neg g'])
    have j1 : (k == 2) = false := by simpa using g
    have j2 : (k == 3) = false := by simpa using g'
    clear g g' hn
    rw [E.out]
    go_enter Try.func10, Try.ntmps10
    go_wp2_with (fail)
    go_ret
    exact RetV.of rfl B0.out.1
theorem In.wd {w : World} {A : Option Addr} {c : Nat} {l : List Wd} (h : In 4 Wd.cells w A c l) {k : Nat} (hk : k < l.length) : ∃ b off, A = some ⟨b, off, none⟩ ∧ b < w.heap.size ∧ ∀ w', Below w.heap.size w w' → w'.cell? ⟨b, off + k * 4, none⟩ = some (.int .i64 l[k].kind) ∧ w'.cell? ⟨b, off + k * 4 + 1, none⟩ = some (.int .i64 l[k].n) ∧ w'.cell? ⟨b, off + k * 4 + 2, none⟩ = some (.int .i64 l[k].pos) ∧ w'.cell? ⟨b, off + k * 4 + 3, none⟩ = some (.string (str l[k].s)) := by
  obtain ⟨b, off, hA, hb, hrow⟩ := h.at hk
  refine ⟨b, off, hA, hb, fun w' hw => ?_⟩
  have hr := hrow.below hw hb
  exact ⟨hr k hk 0 _ rfl, hr k hk 1 _ rfl, hr k hk 2 _ rfl, hr k hk 3 _ rfl⟩
theorem RetAll.wrong {wt : TypeId} {w : World} {s : List UInt8} {e : Ending} {w' : World} (h : RetAll wt w s e w') (hs : s.length ≤ 1000) {k : Nat} (hl : (lexS s).2 = some k) : Below w.heap.size w w' ∧ e = .returned (.tuple #[.slice none 0 0, .int .i64 k, .int .i64 3]) := by
  obtain ⟨hb, h | ⟨_, ⟨k', hk, he⟩ | ⟨v, ws', hl', he, ho⟩⟩⟩ := h
  · omega
  · rw [hl] at hk; injection hk with hk; subst hk; exact ⟨hb, he⟩
  · rw [hl'] at hl; cases hl
end Go.Proofs.Ytbidnflcbgnckaa
namespace Go.Proofs.Ytbidnflcbgnckaa
open Go.RowKit

/-- The reference's reader at block b: the words, the next one, the first error and its place. -/
def Rst (w : World) (b : Nat) (L : List Wd) (N : Int) (I : Nat) (p e : Int) : Prop := ∃ A c, Blk w b #[.slice A L.length c, .int .i64 I, .int .i64 p, .int .i64 e, .int .i64 N] ∧ In 4 Wd.cells w A c L ∧ ∀ ad, A = some ad → ad.block ≠ b
theorem Rst.lt {w : World} {b : Nat} {L : List Wd} {N : Int} {I : Nat} {p e : Int} (h : Rst w b L N I p e) : b < w.heap.size := by obtain ⟨A, c, h1, -⟩ := h; exact h1.lt
theorem Rst.below {w w' : World} {b : Nat} {L : List Wd} {N : Int} {I : Nat} {p e : Int} (h : Rst w b L N I p e) (k : Below w.heap.size w w') : Rst w' b L N I p e := by
  obtain ⟨A, c, h1, h2, h3⟩ := h; exact ⟨A, c, h1.below k h1.lt, h2.below k, h3⟩
/-- The next word is another one. -/
theorem Rst.next {w : World} {b : Nat} {L : List Wd} {N : Int} {I : Nat} {p e : Int} (h : Rst w b L N I p e) (J : Nat) : Rst (w.setCell ⟨b, 1, none⟩ (.int .i64 J)) b L N J p e := by
  obtain ⟨A, c, h1, h2, h3⟩ := h; exact ⟨A, c, h1.store 1 _, h2.kept4 h3 (kept_set _ _ _ _), h3⟩
theorem Rst.fail {w : World} {b : Nat} {L : List Wd} {N : Int} {I : Nat} {p e : Int} (h : Rst w b L N I p e) (p2 e2 : Int) : Rst ((w.setCell ⟨b, 3, none⟩ (.int .i64 e2)).setCell ⟨b, 2, none⟩ (.int .i64 p2)) b L N I p2 e2 := by
  obtain ⟨A, c, h1, h2, h3⟩ := h
  exact ⟨A, c, (h1.store 3 _).store 2 _, (h2.kept4 h3 (kept_set _ _ _ _)).kept4 h3 (kept_set _ _ _ _), h3⟩
theorem drop_at {L : List Wd} {I : Nat} (h : I < L.length) : L.drop I = L[I] :: L.drop (I + 1) := List.drop_eq_getElem_cons h
theorem drop_out {L : List Wd} {I : Nat} (h : ¬ I < L.length) : L.drop I = [] := List.drop_eq_nil_of_le (by omega)
set_option maxHeartbeats 400000 in
theorem c_ref11_place (L : List Wd) (N : Int) (I : Nat) (p e : Int) (b : Nat) (w : World) (h : Rst w b L N I p e) : Calls Try.prog 17 #[.pointer (some ⟨b, 0, none⟩)] w (RetV w (.int .i64 (posW N (L.drop I)))) := by
  have H := Lib.hid h
  obtain ⟨A, c, hB, hI, hA⟩ := h
  have hbl := hB.lt
  have HB := Lib.hid hB
  have hL := hI.1
  have hC := hI.2.1
  have hS := hI.2.2.1
  by_cases hlt : I < L.length
  · have dl : decide (I < L.length) = true := by simpa using hlt
    obtain ⟨g, off, rfl, hg, hq⟩ := hI.wd hlt
    obtain ⟨x, hx⟩ : ∃ x, x = L[I] := ⟨_, rfl⟩
    have HQ := Lib.hid hq
    have HX := Lib.hid hx
    have HD := Lib.hid (show L.drop I = x :: L.drop (I + 1) by rw [hx]; exact drop_at hlt)
    clear hq hx hI hA hB
    have r0 := (HB.out.below (Below.refl w.heap.size w) hbl).cell (i := 0) rfl
    have r1 := (HB.out.below (Below.refl w.heap.size w) hbl).cell (i := 1) rfl
    have sb := Nat.lt_of_lt_of_le hbl (Below.size (Below.refl w.heap.size w))
    go_enter Try.func17, Try.ntmps17
    go_wp2_with (fail)
    refine wp_region_grow (by kernel_rfl) (by kernel_rfl) ?_
    repeat (quiet_step ((first | (fail))))
    refine wpQuiet_nil ?_
    intro w2 hb2
    have r0 := (HB.out.below hb2 hbl).cell (i := 0) rfl
    have r1 := (HB.out.below hb2 hbl).cell (i := 1) rfl
    have sb := Nat.lt_of_lt_of_le hbl (Below.size hb2)
    obtain ⟨e0, e1, e2, e3⟩ := HQ.out _ hb2
    rw [← HX.out] at e0 e1 e2 e3
    have sg := Nat.lt_of_lt_of_le hg (Below.size hb2)
    go_wp2_with (fail)
    refine wp_region_grow (by kernel_rfl) (by kernel_rfl) ?_
    repeat (quiet_step ((first | (fail))))
    refine wpQuiet_nil ?_
    intro w3 hb3
    go_wp2_with (fail)
    go_ret
    rw [HD.out]
    exact RetV.int rfl (hb2.trans (hb3.mono hb2.size))
  · have dl : decide (I < L.length) = false := by simpa using hlt
    have HD := Lib.hid (drop_out hlt)
    clear hI hA hB
    have r0 := (HB.out.below (Below.refl w.heap.size w) hbl).cell (i := 0) rfl
    have r1 := (HB.out.below (Below.refl w.heap.size w) hbl).cell (i := 1) rfl
    have sb := Nat.lt_of_lt_of_le hbl (Below.size (Below.refl w.heap.size w))
    go_enter Try.func17, Try.ntmps17
    go_wp2_with (fail)
    refine wp_region_grow (by kernel_rfl) (by kernel_rfl) ?_
    repeat (quiet_step ((first | (fail))))
    refine wpQuiet_nil ?_
    intro w2 hb2
    have r4 := (HB.out.below hb2 hbl).cell (i := 4) rfl
    go_wp2_with (fail)
    go_ret
    rw [HD.out]
    exact RetV.int rfl (by repeat (first | exact Below.refl _ _ | refine Below.drew ?_ | refine Below.alloc ?_ (by first | omega | (simp; done) | (simp; omega)) _ | refine Below.setCell ?_ (by first | omega | (simp; done) | (simp; omega)) _ | refine Below.trans ?_ (Below.mono (by assumption) (by first | omega | (simp; done) | (simp; omega)))))
theorem Below.drewN {B : Nat} {a w : World} (h : Below B a w) (n : Nat) : Below B a (w.drewN n) := h.trans ⟨rfl, rfl, rfl, Nat.le_refl _, fun _ _ => rfl⟩
/-- Nothing is handed back; the state is as it says. -/
def RetN (w : World) (b : Nat) (L : List Wd) (N : Int) (I : Nat) (p e : Int) (en : Ending) (w' : World) : Prop := en = .returned (.tuple #[]) ∧ Kept (some b) w.heap.size w w' ∧ Rst w' b L N I p e
set_option maxHeartbeats 400000 in
theorem ref11_fail_first (L : List Wd) (N : Int) (I : Nat) (b : Nat) (p p2 e2 : Int) (w : World) (h : Rst w b L N I p 0) : Calls Try.prog 16 #[.pointer (some ⟨b, 0, none⟩), .int .i64 p2, .int .i64 e2] w (RetN w b L N I p2 e2) := by
  have H := Lib.hid h
  obtain ⟨A, c, hB, hI, hA⟩ := h
  have hbl := hB.lt
  have HB := Lib.hid hB
  have hL := hI.1
  have hC := hI.2.1
  have hS := hI.2.2.1
  have r2 := hB.cell (i := 2) rfl
  have r3 := hB.cell (i := 3) rfl
  have z3 := hB.frozen 3
  have z2 := hB.frozen 2
  clear hI hA hB
  go_enter Try.func16, Try.ntmps16
  go_wp2_with (fail)
  go_end0
  exact ⟨rfl, (kept_set _ _ _ _).trans ((kept_set _ _ _ _).mono (by simp [World.setCell])), H.out.fail p2 e2⟩
set_option maxHeartbeats 400000 in
theorem ref11_fail_not (L : List Wd) (N : Int) (I : Nat) (b : Nat) (p e p2 e2 : Int) (he : e ≠ 0) (w : World) (h : Rst w b L N I p e) : Calls Try.prog 16 #[.pointer (some ⟨b, 0, none⟩), .int .i64 p2, .int .i64 e2] w (RetN w b L N I p e) := by
  have H := Lib.hid h
  obtain ⟨A, c, hB, hI, hA⟩ := h
  have hbl := hB.lt
  have HB := Lib.hid hB
  have hL := hI.1
  have hC := hI.2.1
  have hS := hI.2.2.1
  have r3 := hB.cell (i := 3) rfl
  have be : (e == 0) = false := by simpa using he
  clear hI hA hB he
  go_enter Try.func16, Try.ntmps16
  go_wp2_with (fail)
  go_end0
  exact ⟨rfl, Kept.refl _ _ _, H.out⟩
theorem c_ref11_fail (L : List Wd) (N : Int) (I : Nat) (b : Nat) (p e p2 e2 : Int) (w : World) (h : Rst w b L N I p e) : Calls Try.prog 16 #[.pointer (some ⟨b, 0, none⟩), .int .i64 p2, .int .i64 e2] w (RetN w b L N I (if e = 0 then p2 else p) (if e = 0 then e2 else e)) := by
  by_cases he : e = 0
  · subst he; exact ref11_fail_first L N I b p p2 e2 w h
  · rw [if_neg he, if_neg he]; exact ref11_fail_not L N I b p e p2 e2 he w h
set_option maxRecDepth 4000 in
set_option maxHeartbeats 4000000 in
theorem c_ref11_is (k : Int) (s : List UInt8) (L : List Wd) (N : Int) (I : Nat) (p e : Int) (b : Nat) (w : World) (h : Rst w b L N I p e) : Calls Try.prog 34 #[.pointer (some ⟨b, 0, none⟩), .int .i64 k, .string (str s)] w (RetV w (.bool (isW k s (L.drop I)))) := by
  have H := Lib.hid h
  obtain ⟨A, c, hB, hI, hA⟩ := h
  have hbl := hB.lt
  have HB := Lib.hid hB
  have hL := hI.1
  have hC := hI.2.1
  have hS := hI.2.2.1
  by_cases hlt : I < L.length
  · have dl : decide (I < L.length) = true := by simpa using hlt
    obtain ⟨g, off, rfl, hg, hq⟩ := hI.wd hlt
    obtain ⟨x, hx⟩ : ∃ x, x = L[I] := ⟨_, rfl⟩
    have HQ := Lib.hid hq
    have HX := Lib.hid hx
    have HD := Lib.hid (show L.drop I = x :: L.drop (I + 1) by rw [hx]; exact drop_at hlt)
    clear hq hx hI hA hB
    rw [HD.out]
    have r0 := (HB.out.below (Below.refl w.heap.size w) hbl).cell (i := 0) rfl
    have r1 := (HB.out.below (Below.refl w.heap.size w) hbl).cell (i := 1) rfl
    have sb := Nat.lt_of_lt_of_le hbl (Below.size (Below.refl w.heap.size w))
    obtain ⟨e0, e1, e2, e3⟩ := HQ.out _ (Below.refl w.heap.size w)
    rw [← HX.out] at e0 e1 e2 e3
    have sg := Nat.lt_of_lt_of_le hg (Below.size (Below.refl w.heap.size w))
    by_cases hk : x.kind = k
    · have bk : (x.kind == k) = true := by simpa using hk
      by_cases hs : x.s = s
      · have bs : (x.s == s) = true := by simpa using hs
        have W := Lib.hid (show isW k s (x :: L.drop (I + 1)) = true by simp [isW, hk, hs])
        clear hs
        clear hk
        go_enter Try.func34, Try.ntmps34
        go_wp2_with (fail)
        go_quiet (fail)
        go_wp2_with (fail)
        go_ret
        rw [W.out]
        exact RetV.bool rfl (Below.drewN (Below.refl _ _) _)
      · have bs : (x.s == s) = false := by simpa using hs
        have W := Lib.hid (show isW k s (x :: L.drop (I + 1)) = false by simp [isW, hs])
        clear hs
        clear hk
        go_enter Try.func34, Try.ntmps34
        go_wp2_with (fail)
        go_quiet (fail)
        go_wp2_with (fail)
        go_ret
        rw [W.out]
        exact RetV.bool rfl (Below.drewN (Below.refl _ _) _)
    · have bk : (x.kind == k) = false := by simpa using hk
      have W := Lib.hid (show isW k s (x :: L.drop (I + 1)) = false by simp [isW, hk])
      clear hk
      go_enter Try.func34, Try.ntmps34
      go_wp2_with (fail)
      go_quiet (fail)
      go_wp2_with (fail)
      go_ret
      rw [W.out]
      exact RetV.bool rfl (Below.drewN (Below.refl _ _) _)
  · have dl : decide (I < L.length) = false := by simpa using hlt
    have HD := Lib.hid (drop_out hlt)
    clear hI hA hB
    have W := Lib.hid (show isW k s (L.drop I) = false by rw [HD.out]; rfl)
    have hk := hlt
    clear hlt
    have r0 := (HB.out.below (Below.refl w.heap.size w) hbl).cell (i := 0) rfl
    have r1 := (HB.out.below (Below.refl w.heap.size w) hbl).cell (i := 1) rfl
    have sb := Nat.lt_of_lt_of_le hbl (Below.size (Below.refl w.heap.size w))
    clear hk
    go_enter Try.func34, Try.ntmps34
    go_wp2_with (fail)
    go_quiet (fail)
    go_wp2_with (fail)
    go_ret
    rw [W.out]
    exact RetV.bool rfl (Below.drewN (Below.refl _ _) _)
end Go.Proofs.Ytbidnflcbgnckaa
namespace Go.Proofs.Ytbidnflcbgnckaa
open Go.RowKit

/-- What was told, by the plain reader: a value and where the reader is, or the first error and its place. -/
def StL {α : Type} (L : List Wd) (x : PR α) (a : α) (J : Nat) (p e : Int) : Prop := match x with
  | .ok a' r => a = a' ∧ r = L.drop J ∧ p = 0 ∧ e = 0 ∧ J ≤ L.length
  | .bad p' e' => p = p' ∧ e = e' ∧ e ≠ 0
def RetU (w : World) (b : Nat) (L : List Wd) (N : Int) (x : PR Int) (en : Ending) (w' : World) : Prop :=
  ∃ (n : Int) (J : Nat) (p e : Int), en = .returned (.int .i64 n) ∧ Kept (some b) w.heap.size w w' ∧ Rst w' b L N J p e ∧ J ≤ L.length ∧ StL L x n J p e
set_option maxRecDepth 4000 in
set_option maxHeartbeats 4000000 in
theorem c_ref11_number (below : Int) (L : List Wd) (N : Int) (I : Nat) (b : Nat) (w : World) (h : Rst w b L N I 0 0) (hIL : I ≤ L.length) : Calls Try.prog 63 #[.pointer (some ⟨b, 0, none⟩), .int .i64 below] w (RetU w b L N (pNum N below (L.drop I))) := by
  have H := Lib.hid h
  obtain ⟨A, c, hB, hI, hA⟩ := h
  have hbl := hB.lt
  have HB := Lib.hid hB
  have hL := hI.1
  have hC := hI.2.1
  have hS := hI.2.2.1
  by_cases hlt : I < L.length
  · have dl : decide (I < L.length) = true := by simpa using hlt
    have dg : decide (L.length ≤ I) = false := by simpa using hlt
    obtain ⟨g, off, rfl, hg, hq⟩ := hI.wd hlt
    obtain ⟨x, hx⟩ : ∃ x, x = L[I] := ⟨_, rfl⟩
    have HQ := Lib.hid hq
    have HX := Lib.hid hx
    have HD := Lib.hid (show L.drop I = x :: L.drop (I + 1) by rw [hx]; exact drop_at hlt)
    clear hq hx hI hA hB
    rw [show pNum N below (L.drop I) = pNum N below (x :: L.drop (I + 1)) by rw [HD.out]]
    have r0 := (HB.out.below (Below.refl w.heap.size w) hbl).cell (i := 0) rfl
    have r1 := (HB.out.below (Below.refl w.heap.size w) hbl).cell (i := 1) rfl
    have r3 := (HB.out.below (Below.refl w.heap.size w) hbl).cell (i := 3) rfl
    have sb := Nat.lt_of_lt_of_le hbl (Below.size (Below.refl w.heap.size w))
    obtain ⟨e0, e1, e2, e3⟩ := HQ.out _ (Below.refl w.heap.size w)
    rw [← HX.out] at e0 e1 e2 e3
    have sg := Nat.lt_of_lt_of_le hg (Below.size (Below.refl w.heap.size w))
    have z1 := HB.out.frozen 1
    by_cases hk : x.kind = 2
    · have bk : (x.kind != 2) = false := by simpa using hk
      by_cases hn : below ≤ x.n
      · have bn : decide (below ≤ x.n) = true := by simpa using hn
        have W := Lib.hid (show pNum N below (x :: L.drop (I + 1)) = .bad x.pos 1 by simp [pNum, hk, hn])
        clear hk hn
        go_enter Try.func63, Try.ntmps63
        go_wp2_with (fail)
        go_quiet (fail)
        go_wp2_with (fail)
        go_quiet (fail)
        go_wp2_with (fail)
        refine (c_ref11_place L N I 0 0 b _ (H.out.below (Below.drewN (Below.refl _ _) _))).mono ?_
        rintro e w2 ⟨rfl, hb2⟩
        have B2 := Lib.hid (show Below w.heap.size w w2 from Below.trans (Below.drewN (Below.refl _ _) _) hb2)
        clear hb2
        go_wp2_with (fail)
        refine (c_ref11_fail L N I b 0 0 _ 1 _ (H.out.below B2.out)).mono ?_
        rintro e w3 ⟨rfl, k3, q3⟩
        have K3 := Lib.hid ((Kept.of_below (p := some b) B2.out).trans (k3.mono B2.out.size))
        have R3 := Lib.hid (show Rst w3 b L N I (posW N (L.drop I)) 1 by simpa using q3)
        clear k3 q3
        go_wp2_with (fail)
        go_ret
        exact ⟨0, I, posW N (L.drop I), 1, rfl, K3.out, R3.out, hIL, by rw [W.out]; exact ⟨by rw [HD.out]; rfl, rfl, by omega⟩⟩
      · have bn : decide (below ≤ x.n) = false := by simpa using hn
        have W := Lib.hid (show pNum N below (x :: L.drop (I + 1)) = .ok x.n (L.drop (I + 1)) by simp [pNum, hk, hn])
        clear hk hn
        go_enter Try.func63, Try.ntmps63
        go_wp2_with (fail)
        go_quiet (fail)
        go_wp2_with (fail)
        go_quiet (fail)
        go_wp2_with (fail)
        go_ret
        have hb2 : ∀ n, Below w.heap.size w (w.drewN n) := fun n => Below.drewN (Below.refl _ _) _
        refine ⟨x.n, I + 1, 0, 0, rfl, ?_, (H.out.below (hb2 _)).next _, hlt, by rw [W.out]; exact ⟨rfl, rfl, rfl, rfl, hlt⟩⟩
        exact (Kept.of_below (p := some b) (hb2 _)).setCell (q := ⟨b, 1, none⟩) (.inr rfl) _
    · have bk : (x.kind != 2) = true := by simpa using hk
      have W := Lib.hid (show pNum N below (x :: L.drop (I + 1)) = .bad x.pos 3 by simp [pNum, hk])
      clear hk
      go_enter Try.func63, Try.ntmps63
      go_wp2_with (fail)
      go_quiet (fail)
      go_wp2_with (fail)
      refine (c_ref11_place L N I 0 0 b _ (H.out.below (Below.drewN (Below.refl _ _) _))).mono ?_
      rintro e w2 ⟨rfl, hb2⟩
      have B2 := Lib.hid (show Below w.heap.size w w2 from Below.trans (Below.drewN (Below.refl _ _) _) hb2)
      clear hb2
      go_wp2_with (fail)
      refine (c_ref11_fail L N I b 0 0 _ 3 _ (H.out.below B2.out)).mono ?_
      rintro e w3 ⟨rfl, k3, q3⟩
      have K3 := Lib.hid ((Kept.of_below (p := some b) B2.out).trans (k3.mono B2.out.size))
      have R3 := Lib.hid (show Rst w3 b L N I (posW N (L.drop I)) 3 by simpa using q3)
      clear k3 q3
      go_wp2_with (fail)
      go_ret
      exact ⟨0, I, posW N (L.drop I), 3, rfl, K3.out, R3.out, hIL, by rw [W.out]; exact ⟨by rw [HD.out]; rfl, rfl, by omega⟩⟩
  · have dl : decide (I < L.length) = false := by simpa using hlt
    have dg : decide (L.length ≤ I) = true := by simpa using hlt
    have HD := Lib.hid (drop_out hlt)
    clear hI hA hB
    have W := Lib.hid (show pNum N below (L.drop I) = .bad N 3 by rw [HD.out]; rfl)
    clear hlt
    have r0 := (HB.out.below (Below.refl w.heap.size w) hbl).cell (i := 0) rfl
    have r1 := (HB.out.below (Below.refl w.heap.size w) hbl).cell (i := 1) rfl
    have r3 := (HB.out.below (Below.refl w.heap.size w) hbl).cell (i := 3) rfl
    have sb := Nat.lt_of_lt_of_le hbl (Below.size (Below.refl w.heap.size w))
    go_enter Try.func63, Try.ntmps63
    go_wp2_with (fail)
    go_quiet (fail)
    go_wp2_with (fail)
    refine (c_ref11_place L N I 0 0 b _ (H.out.below (Below.drewN (Below.refl _ _) _))).mono ?_
    rintro e w2 ⟨rfl, hb2⟩
    have B2 := Lib.hid (show Below w.heap.size w w2 from Below.trans (Below.drewN (Below.refl _ _) _) hb2)
    clear hb2
    go_wp2_with (fail)
    refine (c_ref11_fail L N I b 0 0 _ 3 _ (H.out.below B2.out)).mono ?_
    rintro e w3 ⟨rfl, k3, q3⟩
    have K3 := Lib.hid ((Kept.of_below (p := some b) B2.out).trans (k3.mono B2.out.size))
    have R3 := Lib.hid (show Rst w3 b L N I (posW N (L.drop I)) 3 by simpa using q3)
    clear k3 q3
    go_wp2_with (fail)
    go_ret
    exact ⟨0, I, posW N (L.drop I), 3, rfl, K3.out, R3.out, hIL, by rw [W.out]; exact ⟨by rw [HD.out]; rfl, rfl, by omega⟩⟩
theorem pField_of {L : List Wd} {N n : Int} {I J : Nat} {p e : Int} (S : StL L (pNum N 8 (L.drop I)) n J p e) : pField N (L.drop I) = if e = 0 then pSign N n (L.drop J) else .bad p e := by
  unfold pField
  cases hp : pNum N 8 (L.drop I) with
  | ok a r =>
    rw [hp] at S
    obtain ⟨rfl, rfl, rfl, rfl, -⟩ := S
    rw [if_pos rfl]
  | bad a r =>
    rw [hp] at S
    obtain ⟨rfl, rfl, h⟩ := S
    rw [if_neg h]
theorem field_bad {L : List Wd} {N n : Int} {I J : Nat} {p e : Int} (S : StL L (pNum N 8 (L.drop I)) n J p e) {p2 : Int} (h : pSign N n (L.drop J) = .bad p2 3) (l : List Node) (J2 : Nat) :
    StL L (pField N (L.drop I)) l J2 (if e = 0 then p2 else p) (if e = 0 then 3 else e) := by
  rw [pField_of S]
  by_cases he : e = 0
  · rw [if_pos he, if_pos he, if_pos he, h]; exact ⟨rfl, rfl, by omega⟩
  · rw [if_neg he, if_neg he, if_neg he]; exact ⟨rfl, rfl, he⟩
theorem field_ok {L : List Wd} {N n : Int} {I J : Nat} {p e : Int} (S : StL L (pNum N 8 (L.drop I)) n J p e) {l : List Node} {J2 : Nat} (h : pSign N n (L.drop J) = .ok l (L.drop J2)) (hJ : J2 ≤ L.length) :
    StL L (pField N (L.drop I)) l J2 p e := by
  have h2 := pField_of S
  cases hp : pNum N 8 (L.drop I) with
  | ok a r =>
    rw [hp] at S
    obtain ⟨rfl, rfl, rfl, rfl, -⟩ := S
    rw [h2, if_pos rfl, h]; exact ⟨rfl, rfl, rfl, rfl, hJ⟩
  | bad a r =>
    rw [hp] at S
    obtain ⟨rfl, rfl, he⟩ := S
    rw [h2, if_neg he]; exact ⟨rfl, rfl, he⟩
/-- What the reference's field, one, all, any come to: a list, and where the reader is. -/
def RetQ (w : World) (b : Nat) (L : List Wd) (N : Int) (n m : Nat) (x : PR (List Node)) (en : Ending) (w' : World) : Prop :=
  ∃ (l : List Node) (v : Value) (J : Nat) (p e : Int), en = .returned v ∧ VL b w' l v ∧ Kept (some b) w.heap.size w w' ∧ Rst w' b L N J p e ∧ J ≤ L.length + m ∧ l.length ≤ n ∧ StL L x l J p e
theorem field_pval_bad {N op n : Int} {x : Wd} {r : List Wd} (h : x.kind ≠ 3) (h2 : ¬ (x.kind = 2 ∧ op ≠ 9)) : pVal N op n (x :: r) = .bad x.pos 3 := by simp only [pVal]; rw [if_neg h, if_neg h2]
theorem isW_at {k : Int} {s : List UInt8} {L : List Wd} {J : Nat} (h : isW k s (L.drop J) = true) : J + 1 ≤ L.length := by
  rcases Nat.lt_or_ge J L.length with h1 | h1
  · exact h1
  · rw [List.drop_eq_nil_of_le h1] at h; cases h
theorem pSign_is {N n op : Int} {s : List UInt8} {L : List Wd} {J : Nat} (h : isW 4 s (L.drop J) = true) (ho : signOp s = op) (h0 : op ≠ 0) : pSign N n (L.drop J) = pVal N op n (L.drop (J + 1)) := by
  have hJ := isW_at h
  rw [drop_at (show J < L.length by omega)] at h ⊢
  simp only [isW, Bool.and_eq_true, decide_eq_true_eq] at h
  simp only [pSign]
  rw [h.2, ho, if_pos ⟨h.1, h0⟩]
theorem pSign_not {N n : Int} {ws : List Wd} (h1 : isW 4 [61] ws = false) (h2 : isW 4 [60] ws = false) (h3 : isW 4 [62] ws = false) (h4 : isW 4 [126] ws = false) : pSign N n ws = .bad (posW N ws) 3 := by
  cases ws with
  | nil => rfl
  | cons x r =>
    simp only [isW, Bool.and_eq_false_iff, decide_eq_false_iff_not] at h1 h2 h3 h4
    simp only [pSign, posW]
    rw [if_neg]
    rintro ⟨hk, hs⟩
    unfold signOp at hs
    rcases h1 with h1 | h1
    · exact h1 hk
    rcases h2 with h2 | h2
    · exact h2 hk
    rcases h3 with h3 | h3
    · exact h3 hk
    rcases h4 with h4 | h4
    · exact h4 hk
    rw [if_neg h1, if_neg h2, if_neg h3, if_neg h4] at hs
    exact hs rfl
theorem field_end {w W : World} {b : Nat} {L : List Wd} {N op n : Int} {v : Val} {J z : Nat} {p e : Int} {x : PR (List Node)} (K : Kept (some b) w.heap.size w W) (R : Rst W b L N J p e) (hJ : J ≤ L.length) (S : StL L x (nd op n v) J p e) (hz : z = W.heap.size) :
    RetQ w b L N 1 0 x (.returned (.slice (some ⟨z, 0, none⟩) 1 1)) (W.alloc (.cells #[.int .i64 op, .int .i64 n, .int .i64 v.kind, .int .i64 v.n, .string (str v.s)] 41)).drew := by
  subst hz
  have hb : Below W.heap.size W (W.alloc (.cells #[.int .i64 op, .int .i64 n, .int .i64 v.kind, .int .i64 v.n, .string (str v.s)] 41)).drew := (by repeat (first | exact Below.refl _ _ | refine Below.drew ?_ | refine Below.alloc ?_ (by first | omega | (simp; done) | (simp; omega)) _ | refine Below.setCell ?_ (by first | omega | (simp; done) | (simp; omega)) _ | refine Below.trans ?_ (Below.mono (by assumption) (by first | omega | (simp; done) | (simp; omega)))))
  have i1 := InN.lit W (nd op n v) 41 1 rfl (by simp [nd])
  have hl := R.lt
  exact ⟨nd op n v, _, J, p, e, rfl, ⟨_, 1, rfl, i1.below (by exact Below.drew (Below.refl _ _)), fun ad e => by injection e with e; subst e; show W.heap.size ≠ b; omega⟩, K.then_below hb K.size, R.below hb, hJ, by simp [nd], S⟩
theorem field_pval_text {N op n : Int} {x : Wd} {r : List Wd} (h : x.kind = 3) : pVal N op n (x :: r) = .ok (nd op n ⟨2, 0, x.s⟩) r := by simp [pVal, h]
theorem field_pval_num {N op n : Int} {x : Wd} {r : List Wd} (h : x.kind = 2) (ho : op ≠ 9) : pVal N op n (x :: r) = .ok (nd op n ⟨1, x.n, []⟩) r := by simp [pVal, h, ho]
set_option maxRecDepth 4000 in
set_option maxHeartbeats 4000000 in
theorem c_ref11_field (L : List Wd) (N : Int) (I : Nat) (b : Nat) (w : World) (h : Rst w b L N I 0 0) (hIL : I ≤ L.length) : Calls Try.prog 64 #[.pointer (some ⟨b, 0, none⟩)] w (RetQ w b L N 1 0 (pField N (L.drop I))) := by
  have H := Lib.hid h
  clear h
  go_enter Try.func64, Try.ntmps64
  go_wp2_with (fail)
  refine (c_ref11_number 8 L N I b _ H.out hIL).mono ?_
  rintro e0 w1 ⟨n, J, p, e, rfl, k1, q1, hJ, s1⟩
  have HS := Lib.hid s1
  have R1 := Lib.hid q1
  have K1 := Lib.hid k1
  clear k1 q1 s1
  go_wp2_with (fail)
  -- 61 the byte, 1 the world's number ahead, 2 behind,  the fact's name
  refine (c_ref11_is 4 [61] L N J p e b _ R1.out).mono ?_
  rintro e1 w2 ⟨rfl, hb2⟩
  have R2 := Lib.hid (R1.out.below hb2)
  have K2 := Lib.hid (K1.out.then_below hb2 K1.out.size)
  clear hb2
  cases hc : isW 4 [61] (L.drop J) with
  | true =>
    -- 6 the operation, 2 the world's number
    have PS := Lib.hid (pSign_is (N := N) (n := n) hc (show _ = 6 from rfl) (by decide))
    have hJ1 := isW_at hc
    clear hc
    obtain ⟨A, c, hB, hI, hA⟩ := R2.out
    have r1 := hB.cell (i := 1) rfl
    have z1 := hB.frozen 1
    obtain ⟨J2, hJ2⟩ : ∃ J2, J2 = J + 1 := ⟨_, rfl⟩
    obtain ⟨w6, hw6⟩ : ∃ w6, w6 = w2.setCell ⟨b, 1, none⟩ (.int .i64 ((J : Int) + 1)) := ⟨_, rfl⟩
    have R6 := Lib.hid (show Rst w6 b L N J2 p e by rw [hw6, show ((J : Int) + 1) = ((J2 : Nat) : Int) by omega]; exact R2.out.next J2)
    have K6 := Lib.hid (show Kept (some b) w.heap.size w w6 by rw [hw6]; exact K2.out.setCell (q := ⟨b, 1, none⟩) (.inr rfl) _)
    rw [← hJ2] at PS hJ1
    have hS0 := hI.2.2.1
    have HJ := Lib.hid hJ2
    clear hB hI hA hJ2
    go_wp2_with (fail)
    rw [← hw6]
    clear hw6 r1 z1
    obtain ⟨A2, c2, hB, hI, hA⟩ := R6.out
    have hbl := hB.lt
    have r0 := hB.cell (i := 0) rfl
    have r1 := hB.cell (i := 1) rfl
    have z1 := hB.frozen 1
    have hL := hI.1
    have hC := hI.2.1
    have hS := hI.2.2.1
    by_cases hlt : J2 < L.length
    · have dl : decide (J2 < L.length) = true := by simpa using hlt
      obtain ⟨g, off, rfl, hg, hq⟩ := hI.wd hlt
      obtain ⟨x, hx⟩ : ∃ x, x = L[J2] := ⟨_, rfl⟩
      have HD := Lib.hid (show L.drop J2 = x :: L.drop (J2 + 1) by rw [hx]; exact drop_at hlt)
      obtain ⟨e0, e1, e2, e3⟩ := hq _ (Below.refl _ _)
      rw [← hx] at e0 e1 e2 e3
      have hgb : g ≠ b := hA _ rfl
      clear hq hx hI hA hB
      by_cases hk : x.kind = 3
      · have bk : (x.kind == 3) = true := by simpa using hk
        have HK := Lib.hid hk
        clear hk
        go_quiet (fail)
        go_wp2_with (fail)
        go_region
        go_wp2_with (fail)
        go_ret
        have B9 : Below w6.heap.size w6 (w6.drewN nq) := Below.drewN (Below.refl _ _) _
        exact field_end (v := ⟨2, 0, x.s⟩) ((K6.out.then_below B9 K6.out.size).setCell (q := ⟨b, 1, none⟩) (.inr rfl) _) ((R6.out.below B9).next (J2 + 1)) hlt (field_ok HS.out (by rw [PS.out, HD.out]; exact field_pval_text HK.out) hlt) (by simp [World.setCell])
      · have bk : (x.kind == 3) = false := by simpa using hk
        have HK := Lib.hid hk
        clear hk
        by_cases hk : x.kind = 2
        · have bk2 : (x.kind == 2) = true := by simpa using hk
          have HK2 := Lib.hid hk
          clear hk
          go_quiet (fail)
          go_wp2_with (fail)
          go_quiet (fail)
          go_wp2_with (fail)
          go_region
          go_wp2_with (fail)
          go_ret
          have B9 : ∀ k, Below w6.heap.size w6 (w6.drewN k) := fun k => Below.drewN (Below.refl _ _) _
          exact field_end (v := ⟨1, x.n, []⟩) ((K6.out.then_below (B9 _) K6.out.size).setCell (q := ⟨b, 1, none⟩) (.inr rfl) _) ((R6.out.below (B9 _)).next (J2 + 1)) hlt (field_ok HS.out (by rw [PS.out, HD.out]; exact field_pval_num HK2.out (by decide)) hlt) (by simp [World.setCell])
        · have bk2 : (x.kind == 2) = false := by simpa using hk
          have HK2 := Lib.hid hk
          clear hk
          go_quiet (fail)
          go_wp2_with (fail)
          go_quiet (fail)
          go_wp2_with (fail)
          -- R6.out.below (Below.drewN (Below.refl _ _) _) the world's fact from w1, by rw [PS.out, HD.out]; exact field_pval_bad HK.out (fun h => HK2.out h.1) plain: pSign is bad, J2 the reader's place
          refine (c_ref11_place L N J2 p e b _ (R6.out.below (Below.drewN (Below.refl _ _) _))).mono ?_
          rintro e9 w8 ⟨rfl, hb8⟩
          have R8 := Lib.hid (Rst.below (R6.out.below (Below.drewN (Below.refl _ _) _)) hb8)
          have K8 := Lib.hid (Kept.then_below (K6.out.then_below (Below.drewN (Below.refl _ _) _) K6.out.size) hb8 ((Kept.size (K6.out.then_below (Below.drewN (Below.refl _ _) _) K6.out.size))))
          clear hb8
          go_wp2_with (fail)
          refine (c_ref11_fail L N J2 b p e _ 3 _ R8.out).mono ?_
          rintro e9 w9 ⟨rfl, k9, q9⟩
          have K9 := Lib.hid (K8.out.then_kept k9 K8.out.size)
          have R9 := Lib.hid q9
          clear k9 q9
          go_wp2_with (fail)
          go_ret
          exact ⟨[], _, J2, _, _, rfl, ⟨none, 0, rfl, In.nil (by omega), fun ad e => by cases e⟩, K9.out, R9.out, by omega, by simp, field_bad HS.out (by rw [PS.out, HD.out]; exact field_pval_bad HK.out (fun h => HK2.out h.1)) _ _⟩
    · have dl : decide (J2 < L.length) = false := by simpa using hlt
      have HD := Lib.hid (drop_out hlt)
      clear hI hA hB
      go_quiet (fail)
      go_wp2_with (fail)
      go_quiet (fail)
      go_wp2_with (fail)
      -- R6.out.below (Below.drewN (Below.refl _ _) _) the world's fact from w1, by rw [PS.out, HD.out]; rfl plain: pSign is bad, J2 the reader's place
      refine (c_ref11_place L N J2 p e b _ (R6.out.below (Below.drewN (Below.refl _ _) _))).mono ?_
      rintro e9 w8 ⟨rfl, hb8⟩
      have R8 := Lib.hid (Rst.below (R6.out.below (Below.drewN (Below.refl _ _) _)) hb8)
      have K8 := Lib.hid (Kept.then_below (K6.out.then_below (Below.drewN (Below.refl _ _) _) K6.out.size) hb8 ((Kept.size (K6.out.then_below (Below.drewN (Below.refl _ _) _) K6.out.size))))
      clear hb8
      go_wp2_with (fail)
      refine (c_ref11_fail L N J2 b p e _ 3 _ R8.out).mono ?_
      rintro e9 w9 ⟨rfl, k9, q9⟩
      have K9 := Lib.hid (K8.out.then_kept k9 K8.out.size)
      have R9 := Lib.hid q9
      clear k9 q9
      go_wp2_with (fail)
      go_ret
      exact ⟨[], _, J2, _, _, rfl, ⟨none, 0, rfl, In.nil (by omega), fun ad e => by cases e⟩, K9.out, R9.out, by omega, by simp, field_bad HS.out (by rw [PS.out, HD.out]; rfl) _ _⟩
  | false =>
    have C1 := Lib.hid hc
    clear hc
    go_wp2_with (fail)
    -- 60 the byte, 2 the world's number ahead, 3 behind,  the fact's name
    refine (c_ref11_is 4 [60] L N J p e b _ R2.out).mono ?_
    rintro e1 w3 ⟨rfl, hb2⟩
    have R3 := Lib.hid (R2.out.below hb2)
    have K3 := Lib.hid (K2.out.then_below hb2 K2.out.size)
    clear hb2
    cases hc : isW 4 [60] (L.drop J) with
    | true =>
      -- 7 the operation, 3 the world's number
      have PS := Lib.hid (pSign_is (N := N) (n := n) hc (show _ = 7 from rfl) (by decide))
      have hJ1 := isW_at hc
      clear hc
      obtain ⟨A, c, hB, hI, hA⟩ := R3.out
      have r1 := hB.cell (i := 1) rfl
      have z1 := hB.frozen 1
      obtain ⟨J2, hJ2⟩ : ∃ J2, J2 = J + 1 := ⟨_, rfl⟩
      obtain ⟨w6, hw6⟩ : ∃ w6, w6 = w3.setCell ⟨b, 1, none⟩ (.int .i64 ((J : Int) + 1)) := ⟨_, rfl⟩
      have R6 := Lib.hid (show Rst w6 b L N J2 p e by rw [hw6, show ((J : Int) + 1) = ((J2 : Nat) : Int) by omega]; exact R3.out.next J2)
      have K6 := Lib.hid (show Kept (some b) w.heap.size w w6 by rw [hw6]; exact K3.out.setCell (q := ⟨b, 1, none⟩) (.inr rfl) _)
      rw [← hJ2] at PS hJ1
      have hS0 := hI.2.2.1
      have HJ := Lib.hid hJ2
      clear hB hI hA hJ2
      go_wp2_with (fail)
      rw [← hw6]
      clear hw6 r1 z1
      obtain ⟨A2, c2, hB, hI, hA⟩ := R6.out
      have hbl := hB.lt
      have r0 := hB.cell (i := 0) rfl
      have r1 := hB.cell (i := 1) rfl
      have z1 := hB.frozen 1
      have hL := hI.1
      have hC := hI.2.1
      have hS := hI.2.2.1
      by_cases hlt : J2 < L.length
      · have dl : decide (J2 < L.length) = true := by simpa using hlt
        obtain ⟨g, off, rfl, hg, hq⟩ := hI.wd hlt
        obtain ⟨x, hx⟩ : ∃ x, x = L[J2] := ⟨_, rfl⟩
        have HD := Lib.hid (show L.drop J2 = x :: L.drop (J2 + 1) by rw [hx]; exact drop_at hlt)
        obtain ⟨e0, e1, e2, e3⟩ := hq _ (Below.refl _ _)
        rw [← hx] at e0 e1 e2 e3
        have hgb : g ≠ b := hA _ rfl
        clear hq hx hI hA hB
        by_cases hk : x.kind = 3
        · have bk : (x.kind == 3) = true := by simpa using hk
          have HK := Lib.hid hk
          clear hk
          go_quiet (fail)
          go_wp2_with (fail)
          go_region
          go_wp2_with (fail)
          go_ret
          have B9 : Below w6.heap.size w6 (w6.drewN nq) := Below.drewN (Below.refl _ _) _
          exact field_end (v := ⟨2, 0, x.s⟩) ((K6.out.then_below B9 K6.out.size).setCell (q := ⟨b, 1, none⟩) (.inr rfl) _) ((R6.out.below B9).next (J2 + 1)) hlt (field_ok HS.out (by rw [PS.out, HD.out]; exact field_pval_text HK.out) hlt) (by simp [World.setCell])
        · have bk : (x.kind == 3) = false := by simpa using hk
          have HK := Lib.hid hk
          clear hk
          by_cases hk : x.kind = 2
          · have bk2 : (x.kind == 2) = true := by simpa using hk
            have HK2 := Lib.hid hk
            clear hk
            go_quiet (fail)
            go_wp2_with (fail)
            go_quiet (fail)
            go_wp2_with (fail)
            go_region
            go_wp2_with (fail)
            go_ret
            have B9 : ∀ k, Below w6.heap.size w6 (w6.drewN k) := fun k => Below.drewN (Below.refl _ _) _
            exact field_end (v := ⟨1, x.n, []⟩) ((K6.out.then_below (B9 _) K6.out.size).setCell (q := ⟨b, 1, none⟩) (.inr rfl) _) ((R6.out.below (B9 _)).next (J2 + 1)) hlt (field_ok HS.out (by rw [PS.out, HD.out]; exact field_pval_num HK2.out (by decide)) hlt) (by simp [World.setCell])
          · have bk2 : (x.kind == 2) = false := by simpa using hk
            have HK2 := Lib.hid hk
            clear hk
            go_quiet (fail)
            go_wp2_with (fail)
            go_quiet (fail)
            go_wp2_with (fail)
            -- R6.out.below (Below.drewN (Below.refl _ _) _) the world's fact from w1, by rw [PS.out, HD.out]; exact field_pval_bad HK.out (fun h => HK2.out h.1) plain: pSign is bad, J2 the reader's place
            refine (c_ref11_place L N J2 p e b _ (R6.out.below (Below.drewN (Below.refl _ _) _))).mono ?_
            rintro e9 w8 ⟨rfl, hb8⟩
            have R8 := Lib.hid (Rst.below (R6.out.below (Below.drewN (Below.refl _ _) _)) hb8)
            have K8 := Lib.hid (Kept.then_below (K6.out.then_below (Below.drewN (Below.refl _ _) _) K6.out.size) hb8 ((Kept.size (K6.out.then_below (Below.drewN (Below.refl _ _) _) K6.out.size))))
            clear hb8
            go_wp2_with (fail)
            refine (c_ref11_fail L N J2 b p e _ 3 _ R8.out).mono ?_
            rintro e9 w9 ⟨rfl, k9, q9⟩
            have K9 := Lib.hid (K8.out.then_kept k9 K8.out.size)
            have R9 := Lib.hid q9
            clear k9 q9
            go_wp2_with (fail)
            go_ret
            exact ⟨[], _, J2, _, _, rfl, ⟨none, 0, rfl, In.nil (by omega), fun ad e => by cases e⟩, K9.out, R9.out, by omega, by simp, field_bad HS.out (by rw [PS.out, HD.out]; exact field_pval_bad HK.out (fun h => HK2.out h.1)) _ _⟩
      · have dl : decide (J2 < L.length) = false := by simpa using hlt
        have HD := Lib.hid (drop_out hlt)
        clear hI hA hB
        go_quiet (fail)
        go_wp2_with (fail)
        go_quiet (fail)
        go_wp2_with (fail)
        -- R6.out.below (Below.drewN (Below.refl _ _) _) the world's fact from w1, by rw [PS.out, HD.out]; rfl plain: pSign is bad, J2 the reader's place
        refine (c_ref11_place L N J2 p e b _ (R6.out.below (Below.drewN (Below.refl _ _) _))).mono ?_
        rintro e9 w8 ⟨rfl, hb8⟩
        have R8 := Lib.hid (Rst.below (R6.out.below (Below.drewN (Below.refl _ _) _)) hb8)
        have K8 := Lib.hid (Kept.then_below (K6.out.then_below (Below.drewN (Below.refl _ _) _) K6.out.size) hb8 ((Kept.size (K6.out.then_below (Below.drewN (Below.refl _ _) _) K6.out.size))))
        clear hb8
        go_wp2_with (fail)
        refine (c_ref11_fail L N J2 b p e _ 3 _ R8.out).mono ?_
        rintro e9 w9 ⟨rfl, k9, q9⟩
        have K9 := Lib.hid (K8.out.then_kept k9 K8.out.size)
        have R9 := Lib.hid q9
        clear k9 q9
        go_wp2_with (fail)
        go_ret
        exact ⟨[], _, J2, _, _, rfl, ⟨none, 0, rfl, In.nil (by omega), fun ad e => by cases e⟩, K9.out, R9.out, by omega, by simp, field_bad HS.out (by rw [PS.out, HD.out]; rfl) _ _⟩
    | false =>
      have C2 := Lib.hid hc
      clear hc
      go_wp2_with (fail)
      -- 62 the byte, 3 the world's number ahead, 4 behind,  the fact's name
      refine (c_ref11_is 4 [62] L N J p e b _ R3.out).mono ?_
      rintro e1 w4 ⟨rfl, hb2⟩
      have R4 := Lib.hid (R3.out.below hb2)
      have K4 := Lib.hid (K3.out.then_below hb2 K3.out.size)
      clear hb2
      cases hc : isW 4 [62] (L.drop J) with
      | true =>
        -- 8 the operation, 4 the world's number
        have PS := Lib.hid (pSign_is (N := N) (n := n) hc (show _ = 8 from rfl) (by decide))
        have hJ1 := isW_at hc
        clear hc
        obtain ⟨A, c, hB, hI, hA⟩ := R4.out
        have r1 := hB.cell (i := 1) rfl
        have z1 := hB.frozen 1
        obtain ⟨J2, hJ2⟩ : ∃ J2, J2 = J + 1 := ⟨_, rfl⟩
        obtain ⟨w6, hw6⟩ : ∃ w6, w6 = w4.setCell ⟨b, 1, none⟩ (.int .i64 ((J : Int) + 1)) := ⟨_, rfl⟩
        have R6 := Lib.hid (show Rst w6 b L N J2 p e by rw [hw6, show ((J : Int) + 1) = ((J2 : Nat) : Int) by omega]; exact R4.out.next J2)
        have K6 := Lib.hid (show Kept (some b) w.heap.size w w6 by rw [hw6]; exact K4.out.setCell (q := ⟨b, 1, none⟩) (.inr rfl) _)
        rw [← hJ2] at PS hJ1
        have hS0 := hI.2.2.1
        have HJ := Lib.hid hJ2
        clear hB hI hA hJ2
        go_wp2_with (fail)
        rw [← hw6]
        clear hw6 r1 z1
        obtain ⟨A2, c2, hB, hI, hA⟩ := R6.out
        have hbl := hB.lt
        have r0 := hB.cell (i := 0) rfl
        have r1 := hB.cell (i := 1) rfl
        have z1 := hB.frozen 1
        have hL := hI.1
        have hC := hI.2.1
        have hS := hI.2.2.1
        by_cases hlt : J2 < L.length
        · have dl : decide (J2 < L.length) = true := by simpa using hlt
          obtain ⟨g, off, rfl, hg, hq⟩ := hI.wd hlt
          obtain ⟨x, hx⟩ : ∃ x, x = L[J2] := ⟨_, rfl⟩
          have HD := Lib.hid (show L.drop J2 = x :: L.drop (J2 + 1) by rw [hx]; exact drop_at hlt)
          obtain ⟨e0, e1, e2, e3⟩ := hq _ (Below.refl _ _)
          rw [← hx] at e0 e1 e2 e3
          have hgb : g ≠ b := hA _ rfl
          clear hq hx hI hA hB
          by_cases hk : x.kind = 3
          · have bk : (x.kind == 3) = true := by simpa using hk
            have HK := Lib.hid hk
            clear hk
            go_quiet (fail)
            go_wp2_with (fail)
            go_region
            go_wp2_with (fail)
            go_ret
            have B9 : Below w6.heap.size w6 (w6.drewN nq) := Below.drewN (Below.refl _ _) _
            exact field_end (v := ⟨2, 0, x.s⟩) ((K6.out.then_below B9 K6.out.size).setCell (q := ⟨b, 1, none⟩) (.inr rfl) _) ((R6.out.below B9).next (J2 + 1)) hlt (field_ok HS.out (by rw [PS.out, HD.out]; exact field_pval_text HK.out) hlt) (by simp [World.setCell])
          · have bk : (x.kind == 3) = false := by simpa using hk
            have HK := Lib.hid hk
            clear hk
            by_cases hk : x.kind = 2
            · have bk2 : (x.kind == 2) = true := by simpa using hk
              have HK2 := Lib.hid hk
              clear hk
              go_quiet (fail)
              go_wp2_with (fail)
              go_quiet (fail)
              go_wp2_with (fail)
              go_region
              go_wp2_with (fail)
              go_ret
              have B9 : ∀ k, Below w6.heap.size w6 (w6.drewN k) := fun k => Below.drewN (Below.refl _ _) _
              exact field_end (v := ⟨1, x.n, []⟩) ((K6.out.then_below (B9 _) K6.out.size).setCell (q := ⟨b, 1, none⟩) (.inr rfl) _) ((R6.out.below (B9 _)).next (J2 + 1)) hlt (field_ok HS.out (by rw [PS.out, HD.out]; exact field_pval_num HK2.out (by decide)) hlt) (by simp [World.setCell])
            · have bk2 : (x.kind == 2) = false := by simpa using hk
              have HK2 := Lib.hid hk
              clear hk
              go_quiet (fail)
              go_wp2_with (fail)
              go_quiet (fail)
              go_wp2_with (fail)
              -- R6.out.below (Below.drewN (Below.refl _ _) _) the world's fact from w1, by rw [PS.out, HD.out]; exact field_pval_bad HK.out (fun h => HK2.out h.1) plain: pSign is bad, J2 the reader's place
              refine (c_ref11_place L N J2 p e b _ (R6.out.below (Below.drewN (Below.refl _ _) _))).mono ?_
              rintro e9 w8 ⟨rfl, hb8⟩
              have R8 := Lib.hid (Rst.below (R6.out.below (Below.drewN (Below.refl _ _) _)) hb8)
              have K8 := Lib.hid (Kept.then_below (K6.out.then_below (Below.drewN (Below.refl _ _) _) K6.out.size) hb8 ((Kept.size (K6.out.then_below (Below.drewN (Below.refl _ _) _) K6.out.size))))
              clear hb8
              go_wp2_with (fail)
              refine (c_ref11_fail L N J2 b p e _ 3 _ R8.out).mono ?_
              rintro e9 w9 ⟨rfl, k9, q9⟩
              have K9 := Lib.hid (K8.out.then_kept k9 K8.out.size)
              have R9 := Lib.hid q9
              clear k9 q9
              go_wp2_with (fail)
              go_ret
              exact ⟨[], _, J2, _, _, rfl, ⟨none, 0, rfl, In.nil (by omega), fun ad e => by cases e⟩, K9.out, R9.out, by omega, by simp, field_bad HS.out (by rw [PS.out, HD.out]; exact field_pval_bad HK.out (fun h => HK2.out h.1)) _ _⟩
        · have dl : decide (J2 < L.length) = false := by simpa using hlt
          have HD := Lib.hid (drop_out hlt)
          clear hI hA hB
          go_quiet (fail)
          go_wp2_with (fail)
          go_quiet (fail)
          go_wp2_with (fail)
          -- R6.out.below (Below.drewN (Below.refl _ _) _) the world's fact from w1, by rw [PS.out, HD.out]; rfl plain: pSign is bad, J2 the reader's place
          refine (c_ref11_place L N J2 p e b _ (R6.out.below (Below.drewN (Below.refl _ _) _))).mono ?_
          rintro e9 w8 ⟨rfl, hb8⟩
          have R8 := Lib.hid (Rst.below (R6.out.below (Below.drewN (Below.refl _ _) _)) hb8)
          have K8 := Lib.hid (Kept.then_below (K6.out.then_below (Below.drewN (Below.refl _ _) _) K6.out.size) hb8 ((Kept.size (K6.out.then_below (Below.drewN (Below.refl _ _) _) K6.out.size))))
          clear hb8
          go_wp2_with (fail)
          refine (c_ref11_fail L N J2 b p e _ 3 _ R8.out).mono ?_
          rintro e9 w9 ⟨rfl, k9, q9⟩
          have K9 := Lib.hid (K8.out.then_kept k9 K8.out.size)
          have R9 := Lib.hid q9
          clear k9 q9
          go_wp2_with (fail)
          go_ret
          exact ⟨[], _, J2, _, _, rfl, ⟨none, 0, rfl, In.nil (by omega), fun ad e => by cases e⟩, K9.out, R9.out, by omega, by simp, field_bad HS.out (by rw [PS.out, HD.out]; rfl) _ _⟩
      | false =>
        have C3 := Lib.hid hc
        clear hc
        go_wp2_with (fail)
        -- 126 the byte, 4 the world's number ahead, 5 behind,  the fact's name
        refine (c_ref11_is 4 [126] L N J p e b _ R4.out).mono ?_
        rintro e1 w5 ⟨rfl, hb2⟩
        have R5 := Lib.hid (R4.out.below hb2)
        have K5 := Lib.hid (K4.out.then_below hb2 K4.out.size)
        clear hb2
        cases hc : isW 4 [126] (L.drop J) with
        | true =>
          -- 9 the operation, 5 the world's number
          have PS := Lib.hid (pSign_is (N := N) (n := n) hc (show _ = 9 from rfl) (by decide))
          have hJ1 := isW_at hc
          clear hc
          obtain ⟨A, c, hB, hI, hA⟩ := R5.out
          have r1 := hB.cell (i := 1) rfl
          have z1 := hB.frozen 1
          obtain ⟨J2, hJ2⟩ : ∃ J2, J2 = J + 1 := ⟨_, rfl⟩
          obtain ⟨w6, hw6⟩ : ∃ w6, w6 = w5.setCell ⟨b, 1, none⟩ (.int .i64 ((J : Int) + 1)) := ⟨_, rfl⟩
          have R6 := Lib.hid (show Rst w6 b L N J2 p e by rw [hw6, show ((J : Int) + 1) = ((J2 : Nat) : Int) by omega]; exact R5.out.next J2)
          have K6 := Lib.hid (show Kept (some b) w.heap.size w w6 by rw [hw6]; exact K5.out.setCell (q := ⟨b, 1, none⟩) (.inr rfl) _)
          rw [← hJ2] at PS hJ1
          have hS0 := hI.2.2.1
          have HJ := Lib.hid hJ2
          clear hB hI hA hJ2
          go_wp2_with (fail)
          rw [← hw6]
          clear hw6 r1 z1
          obtain ⟨A2, c2, hB, hI, hA⟩ := R6.out
          have hbl := hB.lt
          have r0 := hB.cell (i := 0) rfl
          have r1 := hB.cell (i := 1) rfl
          have z1 := hB.frozen 1
          have hL := hI.1
          have hC := hI.2.1
          have hS := hI.2.2.1
          by_cases hlt : J2 < L.length
          · have dl : decide (J2 < L.length) = true := by simpa using hlt
            obtain ⟨g, off, rfl, hg, hq⟩ := hI.wd hlt
            obtain ⟨x, hx⟩ : ∃ x, x = L[J2] := ⟨_, rfl⟩
            have HD := Lib.hid (show L.drop J2 = x :: L.drop (J2 + 1) by rw [hx]; exact drop_at hlt)
            obtain ⟨e0, e1, e2, e3⟩ := hq _ (Below.refl _ _)
            rw [← hx] at e0 e1 e2 e3
            have hgb : g ≠ b := hA _ rfl
            clear hq hx hI hA hB
            by_cases hk : x.kind = 3
            · have bk : (x.kind == 3) = true := by simpa using hk
              have HK := Lib.hid hk
              clear hk
              go_quiet (fail)
              go_wp2_with (fail)
              go_region
              go_wp2_with (fail)
              go_ret
              have B9 : Below w6.heap.size w6 (w6.drewN nq) := Below.drewN (Below.refl _ _) _
              exact field_end (v := ⟨2, 0, x.s⟩) ((K6.out.then_below B9 K6.out.size).setCell (q := ⟨b, 1, none⟩) (.inr rfl) _) ((R6.out.below B9).next (J2 + 1)) hlt (field_ok HS.out (by rw [PS.out, HD.out]; exact field_pval_text HK.out) hlt) (by simp [World.setCell])
            · have bk : (x.kind == 3) = false := by simpa using hk
              have HK := Lib.hid hk
              clear hk
              by_cases hk : x.kind = 2
              · have bk2 : (x.kind == 2) = true := by simpa using hk
                have HK2 := Lib.hid hk
                clear hk
                go_quiet (fail)
                go_wp2_with (fail)
                go_quiet (fail)
                go_wp2_with (fail)
                -- R6.out.below (Below.drewN (Below.refl _ _) _) the world's fact from w1, by rw [PS.out, HD.out]; exact field_pval_bad HK.out (fun h => h.2 rfl) plain: pSign is bad, J2 the reader's place
                refine (c_ref11_place L N J2 p e b _ (R6.out.below (Below.drewN (Below.refl _ _) _))).mono ?_
                rintro e9 w8 ⟨rfl, hb8⟩
                have R8 := Lib.hid (Rst.below (R6.out.below (Below.drewN (Below.refl _ _) _)) hb8)
                have K8 := Lib.hid (Kept.then_below (K6.out.then_below (Below.drewN (Below.refl _ _) _) K6.out.size) hb8 ((Kept.size (K6.out.then_below (Below.drewN (Below.refl _ _) _) K6.out.size))))
                clear hb8
                go_wp2_with (fail)
                refine (c_ref11_fail L N J2 b p e _ 3 _ R8.out).mono ?_
                rintro e9 w9 ⟨rfl, k9, q9⟩
                have K9 := Lib.hid (K8.out.then_kept k9 K8.out.size)
                have R9 := Lib.hid q9
                clear k9 q9
                go_wp2_with (fail)
                go_ret
                exact ⟨[], _, J2, _, _, rfl, ⟨none, 0, rfl, In.nil (by omega), fun ad e => by cases e⟩, K9.out, R9.out, by omega, by simp, field_bad HS.out (by rw [PS.out, HD.out]; exact field_pval_bad HK.out (fun h => h.2 rfl)) _ _⟩
              · have bk2 : (x.kind == 2) = false := by simpa using hk
                have HK2 := Lib.hid hk
                clear hk
                go_quiet (fail)
                go_wp2_with (fail)
                go_quiet (fail)
                go_wp2_with (fail)
                -- R6.out.below (Below.drewN (Below.refl _ _) _) the world's fact from w1, by rw [PS.out, HD.out]; exact field_pval_bad HK.out (fun h => HK2.out h.1) plain: pSign is bad, J2 the reader's place
                refine (c_ref11_place L N J2 p e b _ (R6.out.below (Below.drewN (Below.refl _ _) _))).mono ?_
                rintro e9 w8 ⟨rfl, hb8⟩
                have R8 := Lib.hid (Rst.below (R6.out.below (Below.drewN (Below.refl _ _) _)) hb8)
                have K8 := Lib.hid (Kept.then_below (K6.out.then_below (Below.drewN (Below.refl _ _) _) K6.out.size) hb8 ((Kept.size (K6.out.then_below (Below.drewN (Below.refl _ _) _) K6.out.size))))
                clear hb8
                go_wp2_with (fail)
                refine (c_ref11_fail L N J2 b p e _ 3 _ R8.out).mono ?_
                rintro e9 w9 ⟨rfl, k9, q9⟩
                have K9 := Lib.hid (K8.out.then_kept k9 K8.out.size)
                have R9 := Lib.hid q9
                clear k9 q9
                go_wp2_with (fail)
                go_ret
                exact ⟨[], _, J2, _, _, rfl, ⟨none, 0, rfl, In.nil (by omega), fun ad e => by cases e⟩, K9.out, R9.out, by omega, by simp, field_bad HS.out (by rw [PS.out, HD.out]; exact field_pval_bad HK.out (fun h => HK2.out h.1)) _ _⟩
          · have dl : decide (J2 < L.length) = false := by simpa using hlt
            have HD := Lib.hid (drop_out hlt)
            clear hI hA hB
            go_quiet (fail)
            go_wp2_with (fail)
            go_quiet (fail)
            go_wp2_with (fail)
            -- R6.out.below (Below.drewN (Below.refl _ _) _) the world's fact from w1, by rw [PS.out, HD.out]; rfl plain: pSign is bad, J2 the reader's place
            refine (c_ref11_place L N J2 p e b _ (R6.out.below (Below.drewN (Below.refl _ _) _))).mono ?_
            rintro e9 w8 ⟨rfl, hb8⟩
            have R8 := Lib.hid (Rst.below (R6.out.below (Below.drewN (Below.refl _ _) _)) hb8)
            have K8 := Lib.hid (Kept.then_below (K6.out.then_below (Below.drewN (Below.refl _ _) _) K6.out.size) hb8 ((Kept.size (K6.out.then_below (Below.drewN (Below.refl _ _) _) K6.out.size))))
            clear hb8
            go_wp2_with (fail)
            refine (c_ref11_fail L N J2 b p e _ 3 _ R8.out).mono ?_
            rintro e9 w9 ⟨rfl, k9, q9⟩
            have K9 := Lib.hid (K8.out.then_kept k9 K8.out.size)
            have R9 := Lib.hid q9
            clear k9 q9
            go_wp2_with (fail)
            go_ret
            exact ⟨[], _, J2, _, _, rfl, ⟨none, 0, rfl, In.nil (by omega), fun ad e => by cases e⟩, K9.out, R9.out, by omega, by simp, field_bad HS.out (by rw [PS.out, HD.out]; rfl) _ _⟩
        | false =>
          have C4 := Lib.hid hc
          clear hc
          go_wp2_with (fail)
          -- R5.out the world's fact from w1, pSign_not C1.out C2.out C3.out C4.out plain: pSign is bad, J the reader's place
          refine (c_ref11_place L N J p e b _ (R5.out)).mono ?_
          rintro e9 w8 ⟨rfl, hb8⟩
          have R8 := Lib.hid (Rst.below (R5.out) hb8)
          have K8 := Lib.hid (Kept.then_below (K5.out) hb8 ((Kept.size (K5.out))))
          clear hb8
          go_wp2_with (fail)
          refine (c_ref11_fail L N J b p e _ 3 _ R8.out).mono ?_
          rintro e9 w9 ⟨rfl, k9, q9⟩
          have K9 := Lib.hid (K8.out.then_kept k9 K8.out.size)
          have R9 := Lib.hid q9
          clear k9 q9
          go_wp2_with (fail)
          go_ret
          exact ⟨[], _, J, _, _, rfl, ⟨none, 0, rfl, In.nil (by omega), fun ad e => by cases e⟩, K9.out, R9.out, by omega, by simp, field_bad HS.out (pSign_not C1.out C2.out C3.out C4.out) _ _⟩
end Go.Proofs.Ytbidnflcbgnckaa
namespace Go.Proofs.Ytbidnflcbgnckaa

/-- Words, each with a blank ahead and some blanks behind. -/
def bText : List (Wd × Nat) → List UInt8
  | [] => []
  | (w, k) :: l => 32 :: (wText w.kind w.n w.s ++ (List.replicate k 32 ++ bText l))
theorem bText_snoc : ∀ (l : List (Wd × Nat)) (w : Wd) (k : Nat), bText (l ++ [(w, k)]) = bText l ++ 32 :: (wText w.kind w.n w.s ++ List.replicate k 32)
  | [], w, k => by simp [bText]
  | (a, j) :: l, w, k => by rw [List.cons_append, bText, bText_snoc l w k, bText]; simp
theorem bText_apart : ∀ (l : List (Wd × Nat)), Apart (bText l)
  | [] => fun c h => by simp [bText] at h
  | (a, j) :: l => fun c h => by
    rw [bText] at h
    simpa using h.symm
theorem blanks_apart : ∀ (k : Nat) {s : List UInt8}, Apart s → Apart (List.replicate k 32 ++ s)
  | 0, _, h => by simpa using h
  | k + 1, _, _ => fun c h => by rw [List.replicate_succ] at h; simpa using h.symm
theorem lexF_blank (s : List UInt8) (p : Nat) : lexF (32 :: s).length (32 :: s) p = lexF s.length s (p + 1) := by
  rw [List.length_cons, lexF, if_pos rfl]
theorem lexF_blanks : ∀ (k : Nat) (s : List UInt8) (p : Nat), lexF (List.replicate k 32 ++ s).length (List.replicate k 32 ++ s) p = lexF s.length s (p + k)
  | 0, s, p => by simp
  | k + 1, s, p => by
    rw [List.replicate_succ, List.cons_append, lexF_blank, lexF_blanks k s (p + 1)]
    congr 1; omega
theorem lexF_b : ∀ (l : List (Wd × Nat)) (p : Nat), (∀ x ∈ l, Wd.may x.1.kind x.1.n x.1.s) → ∃ r, lexF (bText l).length (bText l) p = (r, none) ∧ Alk (l.map (·.1)) r
  | [], p, _ => ⟨[], by simp [bText, lexF], .nil⟩
  | (w, k) :: l, p, h => by
    have hw := h _ (List.mem_cons_self ..)
    obtain ⟨r, h1, h2⟩ := lexF_b l (p + 1 + (wText w.kind w.n w.s).length + k) (fun x hx => h x (List.mem_cons_of_mem _ hx))
    refine ⟨⟨w.kind, w.n, ((p + 1 : Nat) : Int), w.s⟩ :: r, ?_, ?_⟩
    · rw [bText, lexF_blank, show wText w.kind w.n w.s = w.text from rfl, lexF_word hw (blanks_apart k (bText_apart l)) _ (Nat.le_refl _), lexF_blanks, show w.text = wText w.kind w.n w.s from rfl, h1]
    · rw [List.map_cons]
      exact .cons w.kind w.n w.pos _ w.s h2
end Go.Proofs.Ytbidnflcbgnckaa
namespace Go.Proofs.Ytbidnflcbgnckaa
open Go.RowKit

/-! Words put one behind the other, one at a time. -/
theorem joinW_snoc : ∀ (l : List Wd) (p : Nat) (w : Wd), joinW p (l ++ [w]) = joinW p l ++ (gap (p + (joinW p l).length) ++ w.text)
  | [], p, w => by simp [joinW]
  | x :: l, p, w => by
    rw [List.cons_append, joinW, joinW_snoc l, joinW]
    simp only [List.append_assoc, List.length_append]
    rw [show p + (gap p).length + x.text.length + (joinW (p + (gap p).length + x.text.length) l).length = p + ((gap p).length + (x.text.length + (joinW (p + (gap p).length + x.text.length) l).length)) by omega]
theorem wText_len {k n : Int} {s : List UInt8} (hn : k = 2 → 0 ≤ n ∧ n ≤ 1099511627776) (hs : s.length ≤ 1024) : (wText k n s).length ≤ 5000 := by
  unfold wText
  split
  · rename_i h
    have := hn h
    have := tens_len n.toNat 13 (by omega) (by omega)
    omega
  · split
    · have := quote_len s; omega
    · omega
/-- The words chosen so far. -/
structure Lb (s : List UInt8) (ws : List Wd) (k : Nat) (ch : List Wd) : Prop where
  may : ∀ x ∈ ch, Wd.may x.kind x.n x.s
  len : ch.length = k
  short : (joinW 0 ch).length ≤ 5001 * k
theorem Lb.next {s : List UInt8} {ws : List Wd} {k : Nat} {ch : List Wd} (h : Lb s ws k ch) {x : Wd} (hx : Wd.may x.kind x.n x.s) (hs : x.s.length ≤ 1024) : Lb s ws (k + 1) (ch ++ [x]) := by
  refine ⟨fun y hy => ?_, by simp [h.len], ?_⟩
  · rcases List.mem_append.1 hy with hy | hy
    · exact h.may y hy
    · obtain rfl : y = x := by simpa using hy
      exact hx
  · have hn : x.kind = 2 → 0 ≤ x.n ∧ x.n ≤ 1099511627776 := by
      intro e
      rcases hx with h | h | h | h
      · omega
      · exact h.2.2
      · omega
      · omega
    have h1 := wText_len hn hs
    have h2 := h.short
    have h3 : (gap (0 + (joinW 0 ch).length)).length ≤ 1 := by unfold gap; split <;> simp
    rw [joinW_snoc, List.length_append, List.length_append]
    have : x.text = wText x.kind x.n x.s := rfl
    rw [this]; omega
end Go.Proofs.Ytbidnflcbgnckaa
namespace Go.Proofs.Ytbidnflcbgnckaa
open Go.ChangeShapes Go.WideShapes Go.ChangeAt Go.RowKit Go.Deep
open Go.ChangeMaps (open_string shut_string)

theorem u8_range {n : Int} (h : (Lit.int .u8 n).wf = true) : 0 ≤ n ∧ n ≤ 255 := by
  simpa [Lit.wf, IntKind.min, IntKind.max, IntKind.signed, IntKind.bits] using h
section
variable {H : Type} {enc : TypeId × Value → H} {w : World} {base : Nat} {spare : Nat → Bool} {held : Bool}
theorem c_uint8 : Try.prog.cellsOf 5 = 1 := by kernel_rfl
/-- A slice of bytes that came in. -/
theorem open_bytes {fuel : Nat} {cs : List Value} {x : DataW H × List MemPlace} (h : DataW.trod enc Try.prog w 0 spare held fuel 29 cs = some x) :
    ∃ (A : Option Addr) (c : Nat) (l : List UInt8), cs = [.slice A l.length c] ∧ l.length ≤ c ∧ c ≤ 9223372036854775807 ∧ (l = [] ∨ ∃ b off, A = some ⟨b, off, none⟩ ∧ b < w.heap.size ∧ Row 1 bc w b off l) := by
  rcases open_slice Try.underlying29 h with ⟨rfl, rfl⟩ | ⟨a, len, cap, m, n, D, Pl, rfl, hb, hl, hm, hmm, hx, hi⟩
  · exact ⟨none, 0, [], rfl, by simp, by omega, .inl rfl⟩
  · have hlm : len ≤ m := by rw [hmm]; split <;> omega
    have hq : ∀ i, i < len → ∃ v : UInt8, ∀ j u, (bc v)[j]? = some u → w.cell? (a.add (i * 1 + j)) = some u := by
      intro i hil
      obtain ⟨cs', hc, ht⟩ := hi i (by omega)
      rw [c_uint8] at hc
      obtain ⟨k, hk, _, wk⟩ := DataW.trod_int Try.underlying5 ht
      have hr := u8_range wk
      obtain ⟨_, hcl, hat⟩ := World.cells?_some hc
      refine ⟨UInt8.ofNat k.toNat, fun j u hu => ?_⟩
      have hj : j < 1 := (List.getElem?_eq_some_iff.1 hu).1
      have hj0 : j = 0 := by omega
      subst hj0
      have h1 := hat 0 (by omega)
      rw [Go.Deep.add_add] at h1
      rw [h1, hk]
      have e : ((UInt8.ofNat k.toNat).toNat : Int) = k := by simp; omega
      simp [bc] at hu
      rw [← hu]
      simp; omega
    obtain ⟨l, hll, hq⟩ := list_of len hq
    refine ⟨some a, cap, l, by rw [hll], by omega, by unfold maxLen at hm; omega, ?_⟩
    rcases Nat.eq_zero_or_pos len with h0 | h0
    · exact .inl (List.eq_nil_of_length_eq_zero (by omega))
    · right
      have h1 := hq 0 (by omega) 0 _ rfl
      have hsp := cell_spot h1
      have hlt := World.block_lt_of_cell? w _ h1
      obtain ⟨ab, ao, asp⟩ := a
      simp [Addr.add] at hsp hlt
      subst hsp
      refine ⟨ab, ao, rfl, hlt, fun i hi j u hu => ?_⟩
      have := hq i hi j u hu
      rw [add_lit'] at this
      rw [Nat.add_assoc]; exact this
end
end Go.Proofs.Ytbidnflcbgnckaa
