/-
  Lemmas (walks and plain laws), in one text.
-/
import Derived.Test.YtiedkcijjfmhaaaDoorSc18
namespace Go.Proofs.YtiedkcijjfmhaaaDoor
open Go.RowKit

set_option maxHeartbeats 40000000 in
set_option maxRecDepth 10000 in
theorem script_put_N (b : List UInt8) (B : Option Addr) (cb : Nat) (o : Deed) (q : Where) (w : World) (hb : InB w B cb b) (hbl : b.length ≤ 800000) (hT : Tab w) (ho : o.fit) (hq : o.at_ w q) (hk : o.kind = 2 ∨ o.kind = 7 ∨ o.kind = 8 ∨ o.kind = 9 ∨ o.kind = 10) :
    Calls Tryd.prog 39 #[.slice B b.length cb, .agg (o.arr q)] w (RetS 1 bc 5 w (b ++ deedB o)) := by
  have FE : dE o.kind = false := by unfold dE; simp; omega
  have FN : dN o.kind = true := by unfold dN; simp; omega
  have FD : dD o.kind = false := by unfold dD; simp; omega
  have FF : dF o.kind = false := by unfold dF; simp; omega
  have FW : dW o.kind = false := by unfold dW; simp; omega
  have FK : dK o.kind = false := by unfold dK; simp; omega
  have FT : dT o.kind = false := by unfold dT; simp; omega
  have HK := Lib.hid (show deedB o = num o.kind ++ (num o.n) by unfold deedB deedT; rw [FE, FN, FD, FF, FW, FK, FT]; simp)
  have hn1 := (num_len o.n).2
  have hL := hb.1
  have hC := hb.2.1
  have HF := Lib.hid ho
  have HQ := Lib.hid hq
  have HB := Lib.hid hb
  have HT := Lib.hid hT
  have hn0 := (num_len o.kind).2
  have B0 := Lib.hid (At.new w 38 (o.arr q))
  obtain ⟨p0, p1, p2, p3, p4, p5, p6, p7⟩ := dcs ho.wf B0.out.2
  clear hb hT ho hq hk
  go_enter Tryd.func39, Tryd.ntmps39
  go_wp2_with (fail)
  refine (c_octet_Num b B cb o.kind _ (HB.out.below B0.out.1)).mono ?_
  rintro e w1 ⟨v1, rfl, own1, hb1⟩
  obtain ⟨acc, hacc⟩ : ∃ l, l = b ++ num o.kind := ⟨_, rfl⟩
  rw [← hacc] at own1
  have han : acc.length ≤ b.length + 7 := by rw [hacc, List.length_append]; omega
  have HA := Lib.hid hacc
  obtain ⟨A1, c1, rfl, -⟩ := In.of_own bc_len own1 (by omega)
  have S := Lib.hid (show PT w w1 o q acc A1 c1 from ⟨B0.out.1.trans (hb1.mono B0.out.1.size), B0.out.2.below hb1 B0.out.2.lt, own_base own1 B0.out.1.size⟩)
  clear own1 hb1 hacc B0 p0 p1 p2 p3 p4 p5 p6 p7
  obtain ⟨p0, p1, p2, p3, p4, p5, p6, p7⟩ := dcs HF.out.wf S.out.o
  go_wp2_with (fail)
  refine (csh o.kind 1 _).mono ?_
  rintro e w1 ⟨rfl, hb1⟩
  rw [hasD_E o.kind, FE]
  replace S := Lib.hid (S.out.step hb1)
  clear hb1 p0 p1 p2 p3 p4 p5 p6 p7
  obtain ⟨p0, p1, p2, p3, p4, p5, p6, p7⟩ := dcs HF.out.wf S.out.o
  go_wp2_with (fail)
  refine (csh o.kind 2 _).mono ?_
  rintro e w1 ⟨rfl, hb1⟩
  rw [hasD_N o.kind, FN]
  replace S := Lib.hid (S.out.step hb1)
  clear hb1 p0 p1 p2 p3 p4 p5 p6 p7
  obtain ⟨p0, p1, p2, p3, p4, p5, p6, p7⟩ := dcs HF.out.wf S.out.o
  go_wp2_with (fail)
  refine (c_octet_Num acc A1 c1 o.n _ (S.out.inb (by omega))).mono ?_
  rintro e w2 ⟨v2, rfl, own2, hb2⟩
  obtain ⟨l2, hl2⟩ : ∃ l, l = acc ++ num o.n := ⟨_, rfl⟩
  rw [← hl2] at own2
  have hl2n : l2.length ≤ b.length + 14 := by rw [hl2, List.length_append]; omega
  replace HA := Lib.hid (hl2.trans (by rw [HA.out]))
  obtain ⟨A2, c2, rfl, -⟩ := In.of_own bc_len own2 (by omega)
  replace S := Lib.hid (S.out.put hb2 own2)
  clear hb2 own2 hl2 p0 p1 p2 p3 p4 p5 p6 p7
  obtain ⟨p0, p1, p2, p3, p4, p5, p6, p7⟩ := dcs HF.out.wf S.out.o
  go_wp2_with (fail)
  refine (csh o.kind 4 _).mono ?_
  rintro e w1 ⟨rfl, hb1⟩
  rw [hasD_D o.kind, FD]
  replace S := Lib.hid (S.out.step hb1)
  clear hb1 p0 p1 p2 p3 p4 p5 p6 p7
  obtain ⟨p0, p1, p2, p3, p4, p5, p6, p7⟩ := dcs HF.out.wf S.out.o
  go_wp2_with (fail)
  refine (csh o.kind 8 _).mono ?_
  rintro e w1 ⟨rfl, hb1⟩
  rw [hasD_F o.kind, FF]
  replace S := Lib.hid (S.out.step hb1)
  clear hb1 p0 p1 p2 p3 p4 p5 p6 p7
  obtain ⟨p0, p1, p2, p3, p4, p5, p6, p7⟩ := dcs HF.out.wf S.out.o
  go_wp2_with (fail)
  refine (csh o.kind 16 _).mono ?_
  rintro e w1 ⟨rfl, hb1⟩
  rw [hasD_W o.kind, FW]
  replace S := Lib.hid (S.out.step hb1)
  clear hb1 p0 p1 p2 p3 p4 p5 p6 p7
  obtain ⟨p0, p1, p2, p3, p4, p5, p6, p7⟩ := dcs HF.out.wf S.out.o
  go_wp2_with (fail)
  refine (csh o.kind 32 _).mono ?_
  rintro e w1 ⟨rfl, hb1⟩
  rw [hasD_K o.kind, FK]
  replace S := Lib.hid (S.out.step hb1)
  clear hb1 p0 p1 p2 p3 p4 p5 p6 p7
  obtain ⟨p0, p1, p2, p3, p4, p5, p6, p7⟩ := dcs HF.out.wf S.out.o
  go_wp2_with (fail)
  refine (csh o.kind 64 _).mono ?_
  rintro e w1 ⟨rfl, hb1⟩
  rw [hasD_T o.kind, FT]
  replace S := Lib.hid (S.out.step hb1)
  clear hb1 p0 p1 p2 p3 p4 p5 p6 p7
  obtain ⟨p0, p1, p2, p3, p4, p5, p6, p7⟩ := dcs HF.out.wf S.out.o
  go_wp2_with (fail)
  go_ret
  exact RetS.of S.out.own (Nat.le_refl _) (by rw [HA.out, HK.out]; simp) S.out.below
set_option maxHeartbeats 40000000 in
set_option maxRecDepth 10000 in
theorem script_put_D (b : List UInt8) (B : Option Addr) (cb : Nat) (o : Deed) (q : Where) (w : World) (hb : InB w B cb b) (hbl : b.length ≤ 800000) (hT : Tab w) (ho : o.fit) (hq : o.at_ w q) (hk : o.kind = 4 ∨ o.kind = 6) :
    Calls Tryd.prog 39 #[.slice B b.length cb, .agg (o.arr q)] w (RetS 1 bc 5 w (b ++ deedB o)) := by
  have FE : dE o.kind = false := by unfold dE; simp; omega
  have FN : dN o.kind = false := by unfold dN; simp; omega
  have FD : dD o.kind = true := by unfold dD; simp; omega
  have FF : dF o.kind = false := by unfold dF; simp; omega
  have FW : dW o.kind = false := by unfold dW; simp; omega
  have FK : dK o.kind = false := by unfold dK; simp; omega
  have FT : dT o.kind = false := by unfold dT; simp; omega
  have HK := Lib.hid (show deedB o = num o.kind ++ (num o.dev) by unfold deedB deedT; rw [FE, FN, FD, FF, FW, FK, FT]; simp)
  have hn1 := (num_len o.dev).2
  have hL := hb.1
  have hC := hb.2.1
  have HF := Lib.hid ho
  have HQ := Lib.hid hq
  have HB := Lib.hid hb
  have HT := Lib.hid hT
  have hn0 := (num_len o.kind).2
  have B0 := Lib.hid (At.new w 38 (o.arr q))
  obtain ⟨p0, p1, p2, p3, p4, p5, p6, p7⟩ := dcs ho.wf B0.out.2
  clear hb hT ho hq hk
  go_enter Tryd.func39, Tryd.ntmps39
  go_wp2_with (fail)
  refine (c_octet_Num b B cb o.kind _ (HB.out.below B0.out.1)).mono ?_
  rintro e w1 ⟨v1, rfl, own1, hb1⟩
  obtain ⟨acc, hacc⟩ : ∃ l, l = b ++ num o.kind := ⟨_, rfl⟩
  rw [← hacc] at own1
  have han : acc.length ≤ b.length + 7 := by rw [hacc, List.length_append]; omega
  have HA := Lib.hid hacc
  obtain ⟨A1, c1, rfl, -⟩ := In.of_own bc_len own1 (by omega)
  have S := Lib.hid (show PT w w1 o q acc A1 c1 from ⟨B0.out.1.trans (hb1.mono B0.out.1.size), B0.out.2.below hb1 B0.out.2.lt, own_base own1 B0.out.1.size⟩)
  clear own1 hb1 hacc B0 p0 p1 p2 p3 p4 p5 p6 p7
  obtain ⟨p0, p1, p2, p3, p4, p5, p6, p7⟩ := dcs HF.out.wf S.out.o
  go_wp2_with (fail)
  refine (csh o.kind 1 _).mono ?_
  rintro e w1 ⟨rfl, hb1⟩
  rw [hasD_E o.kind, FE]
  replace S := Lib.hid (S.out.step hb1)
  clear hb1 p0 p1 p2 p3 p4 p5 p6 p7
  obtain ⟨p0, p1, p2, p3, p4, p5, p6, p7⟩ := dcs HF.out.wf S.out.o
  go_wp2_with (fail)
  refine (csh o.kind 2 _).mono ?_
  rintro e w1 ⟨rfl, hb1⟩
  rw [hasD_N o.kind, FN]
  replace S := Lib.hid (S.out.step hb1)
  clear hb1 p0 p1 p2 p3 p4 p5 p6 p7
  obtain ⟨p0, p1, p2, p3, p4, p5, p6, p7⟩ := dcs HF.out.wf S.out.o
  go_wp2_with (fail)
  refine (csh o.kind 4 _).mono ?_
  rintro e w1 ⟨rfl, hb1⟩
  rw [hasD_D o.kind, FD]
  replace S := Lib.hid (S.out.step hb1)
  clear hb1 p0 p1 p2 p3 p4 p5 p6 p7
  obtain ⟨p0, p1, p2, p3, p4, p5, p6, p7⟩ := dcs HF.out.wf S.out.o
  go_wp2_with (fail)
  refine (c_octet_Num acc A1 c1 o.dev _ (S.out.inb (by omega))).mono ?_
  rintro e w2 ⟨v2, rfl, own2, hb2⟩
  obtain ⟨l2, hl2⟩ : ∃ l, l = acc ++ num o.dev := ⟨_, rfl⟩
  rw [← hl2] at own2
  have hl2n : l2.length ≤ b.length + 14 := by rw [hl2, List.length_append]; omega
  replace HA := Lib.hid (hl2.trans (by rw [HA.out]))
  obtain ⟨A2, c2, rfl, -⟩ := In.of_own bc_len own2 (by omega)
  replace S := Lib.hid (S.out.put hb2 own2)
  clear hb2 own2 hl2 p0 p1 p2 p3 p4 p5 p6 p7
  obtain ⟨p0, p1, p2, p3, p4, p5, p6, p7⟩ := dcs HF.out.wf S.out.o
  go_wp2_with (fail)
  refine (csh o.kind 8 _).mono ?_
  rintro e w1 ⟨rfl, hb1⟩
  rw [hasD_F o.kind, FF]
  replace S := Lib.hid (S.out.step hb1)
  clear hb1 p0 p1 p2 p3 p4 p5 p6 p7
  obtain ⟨p0, p1, p2, p3, p4, p5, p6, p7⟩ := dcs HF.out.wf S.out.o
  go_wp2_with (fail)
  refine (csh o.kind 16 _).mono ?_
  rintro e w1 ⟨rfl, hb1⟩
  rw [hasD_W o.kind, FW]
  replace S := Lib.hid (S.out.step hb1)
  clear hb1 p0 p1 p2 p3 p4 p5 p6 p7
  obtain ⟨p0, p1, p2, p3, p4, p5, p6, p7⟩ := dcs HF.out.wf S.out.o
  go_wp2_with (fail)
  refine (csh o.kind 32 _).mono ?_
  rintro e w1 ⟨rfl, hb1⟩
  rw [hasD_K o.kind, FK]
  replace S := Lib.hid (S.out.step hb1)
  clear hb1 p0 p1 p2 p3 p4 p5 p6 p7
  obtain ⟨p0, p1, p2, p3, p4, p5, p6, p7⟩ := dcs HF.out.wf S.out.o
  go_wp2_with (fail)
  refine (csh o.kind 64 _).mono ?_
  rintro e w1 ⟨rfl, hb1⟩
  rw [hasD_T o.kind, FT]
  replace S := Lib.hid (S.out.step hb1)
  clear hb1 p0 p1 p2 p3 p4 p5 p6 p7
  obtain ⟨p0, p1, p2, p3, p4, p5, p6, p7⟩ := dcs HF.out.wf S.out.o
  go_wp2_with (fail)
  go_ret
  exact RetS.of S.out.own (Nat.le_refl _) (by rw [HA.out, HK.out]; simp) S.out.below
set_option maxHeartbeats 40000000 in
set_option maxRecDepth 10000 in
theorem script_put_Z (b : List UInt8) (B : Option Addr) (cb : Nat) (o : Deed) (q : Where) (w : World) (hb : InB w B cb b) (hbl : b.length ≤ 800000) (hT : Tab w) (ho : o.fit) (hq : o.at_ w q) (hk : ¬ (1 ≤ o.kind ∧ o.kind ≤ 12)) :
    Calls Tryd.prog 39 #[.slice B b.length cb, .agg (o.arr q)] w (RetS 1 bc 5 w (b ++ deedB o)) := by
  have FE : dE o.kind = false := by unfold dE; simp; omega
  have FN : dN o.kind = false := by unfold dN; simp; omega
  have FD : dD o.kind = false := by unfold dD; simp; omega
  have FF : dF o.kind = false := by unfold dF; simp; omega
  have FW : dW o.kind = false := by unfold dW; simp; omega
  have FK : dK o.kind = false := by unfold dK; simp; omega
  have FT : dT o.kind = false := by unfold dT; simp; omega
  have HK := Lib.hid (show deedB o = num o.kind ++ ([]) by unfold deedB deedT; rw [FE, FN, FD, FF, FW, FK, FT]; simp)
  have hL := hb.1
  have hC := hb.2.1
  have HF := Lib.hid ho
  have HQ := Lib.hid hq
  have HB := Lib.hid hb
  have HT := Lib.hid hT
  have hn0 := (num_len o.kind).2
  have B0 := Lib.hid (At.new w 38 (o.arr q))
  obtain ⟨p0, p1, p2, p3, p4, p5, p6, p7⟩ := dcs ho.wf B0.out.2
  clear hb hT ho hq hk
  go_enter Tryd.func39, Tryd.ntmps39
  go_wp2_with (fail)
  refine (c_octet_Num b B cb o.kind _ (HB.out.below B0.out.1)).mono ?_
  rintro e w1 ⟨v1, rfl, own1, hb1⟩
  obtain ⟨acc, hacc⟩ : ∃ l, l = b ++ num o.kind := ⟨_, rfl⟩
  rw [← hacc] at own1
  have han : acc.length ≤ b.length + 7 := by rw [hacc, List.length_append]; omega
  have HA := Lib.hid hacc
  obtain ⟨A1, c1, rfl, -⟩ := In.of_own bc_len own1 (by omega)
  have S := Lib.hid (show PT w w1 o q acc A1 c1 from ⟨B0.out.1.trans (hb1.mono B0.out.1.size), B0.out.2.below hb1 B0.out.2.lt, own_base own1 B0.out.1.size⟩)
  clear own1 hb1 hacc B0 p0 p1 p2 p3 p4 p5 p6 p7
  obtain ⟨p0, p1, p2, p3, p4, p5, p6, p7⟩ := dcs HF.out.wf S.out.o
  go_wp2_with (fail)
  refine (csh o.kind 1 _).mono ?_
  rintro e w1 ⟨rfl, hb1⟩
  rw [hasD_E o.kind, FE]
  replace S := Lib.hid (S.out.step hb1)
  clear hb1 p0 p1 p2 p3 p4 p5 p6 p7
  obtain ⟨p0, p1, p2, p3, p4, p5, p6, p7⟩ := dcs HF.out.wf S.out.o
  go_wp2_with (fail)
  refine (csh o.kind 2 _).mono ?_
  rintro e w1 ⟨rfl, hb1⟩
  rw [hasD_N o.kind, FN]
  replace S := Lib.hid (S.out.step hb1)
  clear hb1 p0 p1 p2 p3 p4 p5 p6 p7
  obtain ⟨p0, p1, p2, p3, p4, p5, p6, p7⟩ := dcs HF.out.wf S.out.o
  go_wp2_with (fail)
  refine (csh o.kind 4 _).mono ?_
  rintro e w1 ⟨rfl, hb1⟩
  rw [hasD_D o.kind, FD]
  replace S := Lib.hid (S.out.step hb1)
  clear hb1 p0 p1 p2 p3 p4 p5 p6 p7
  obtain ⟨p0, p1, p2, p3, p4, p5, p6, p7⟩ := dcs HF.out.wf S.out.o
  go_wp2_with (fail)
  refine (csh o.kind 8 _).mono ?_
  rintro e w1 ⟨rfl, hb1⟩
  rw [hasD_F o.kind, FF]
  replace S := Lib.hid (S.out.step hb1)
  clear hb1 p0 p1 p2 p3 p4 p5 p6 p7
  obtain ⟨p0, p1, p2, p3, p4, p5, p6, p7⟩ := dcs HF.out.wf S.out.o
  go_wp2_with (fail)
  refine (csh o.kind 16 _).mono ?_
  rintro e w1 ⟨rfl, hb1⟩
  rw [hasD_W o.kind, FW]
  replace S := Lib.hid (S.out.step hb1)
  clear hb1 p0 p1 p2 p3 p4 p5 p6 p7
  obtain ⟨p0, p1, p2, p3, p4, p5, p6, p7⟩ := dcs HF.out.wf S.out.o
  go_wp2_with (fail)
  refine (csh o.kind 32 _).mono ?_
  rintro e w1 ⟨rfl, hb1⟩
  rw [hasD_K o.kind, FK]
  replace S := Lib.hid (S.out.step hb1)
  clear hb1 p0 p1 p2 p3 p4 p5 p6 p7
  obtain ⟨p0, p1, p2, p3, p4, p5, p6, p7⟩ := dcs HF.out.wf S.out.o
  go_wp2_with (fail)
  refine (csh o.kind 64 _).mono ?_
  rintro e w1 ⟨rfl, hb1⟩
  rw [hasD_T o.kind, FT]
  replace S := Lib.hid (S.out.step hb1)
  clear hb1 p0 p1 p2 p3 p4 p5 p6 p7
  obtain ⟨p0, p1, p2, p3, p4, p5, p6, p7⟩ := dcs HF.out.wf S.out.o
  go_wp2_with (fail)
  go_ret
  exact RetS.of S.out.own (Nat.le_refl _) (by rw [HA.out, HK.out]; simp) S.out.below
end Go.Proofs.YtiedkcijjfmhaaaDoor
namespace Go.Proofs.YtiedkcijjfmhaaaDoor
open Go.RowKit

set_option maxHeartbeats 40000000 in
set_option maxRecDepth 10000 in
theorem script_put_T (b : List UInt8) (B : Option Addr) (cb : Nat) (o : Deed) (q : Where) (w : World) (hb : InB w B cb b) (hbl : b.length ≤ 800000) (hT : Tab w) (ho : o.fit) (hq : o.at_ w q) (htx : o.text.length ≤ 10000) (hk : o.kind = 12) :
    Calls Tryd.prog 39 #[.slice B b.length cb, .agg (o.arr q)] w (RetS 1 bc 5 w (b ++ deedB o)) := by
  have FE : dE o.kind = false := by unfold dE; simp; omega
  have FN : dN o.kind = false := by unfold dN; simp; omega
  have FD : dD o.kind = false := by unfold dD; simp; omega
  have FF : dF o.kind = false := by unfold dF; simp; omega
  have FW : dW o.kind = false := by unfold dW; simp; omega
  have FK : dK o.kind = false := by unfold dK; simp; omega
  have FT : dT o.kind = true := by unfold dT; simp; omega
  have HK := Lib.hid (show deedB o = num o.kind ++ (strB o.text) by unfold deedB deedT; rw [FE, FN, FD, FF, FW, FK, FT]; simp)
  have htl : (strB o.text).length ≤ 10007 := by have := (num_len (o.text.length : Int)).2; unfold strB; rw [List.length_append]; omega
  have hL := hb.1
  have hC := hb.2.1
  have HF := Lib.hid ho
  have HQ := Lib.hid hq
  have HB := Lib.hid hb
  have HT := Lib.hid hT
  have hn0 := (num_len o.kind).2
  have B0 := Lib.hid (At.new w 38 (o.arr q))
  obtain ⟨p0, p1, p2, p3, p4, p5, p6, p7⟩ := dcs ho.wf B0.out.2
  clear hb hT ho hq hk
  go_enter Tryd.func39, Tryd.ntmps39
  go_wp2_with (fail)
  refine (c_octet_Num b B cb o.kind _ (HB.out.below B0.out.1)).mono ?_
  rintro e w1 ⟨v1, rfl, own1, hb1⟩
  obtain ⟨acc, hacc⟩ : ∃ l, l = b ++ num o.kind := ⟨_, rfl⟩
  rw [← hacc] at own1
  have han : acc.length ≤ b.length + 7 := by rw [hacc, List.length_append]; omega
  have HA := Lib.hid hacc
  obtain ⟨A1, c1, rfl, -⟩ := In.of_own bc_len own1 (by omega)
  have S := Lib.hid (show PT w w1 o q acc A1 c1 from ⟨B0.out.1.trans (hb1.mono B0.out.1.size), B0.out.2.below hb1 B0.out.2.lt, own_base own1 B0.out.1.size⟩)
  clear own1 hb1 hacc B0 p0 p1 p2 p3 p4 p5 p6 p7
  obtain ⟨p0, p1, p2, p3, p4, p5, p6, p7⟩ := dcs HF.out.wf S.out.o
  go_wp2_with (fail)
  refine (csh o.kind 1 _).mono ?_
  rintro e w1 ⟨rfl, hb1⟩
  rw [hasD_E o.kind, FE]
  replace S := Lib.hid (S.out.step hb1)
  clear hb1 p0 p1 p2 p3 p4 p5 p6 p7
  obtain ⟨p0, p1, p2, p3, p4, p5, p6, p7⟩ := dcs HF.out.wf S.out.o
  go_wp2_with (fail)
  refine (csh o.kind 2 _).mono ?_
  rintro e w1 ⟨rfl, hb1⟩
  rw [hasD_N o.kind, FN]
  replace S := Lib.hid (S.out.step hb1)
  clear hb1 p0 p1 p2 p3 p4 p5 p6 p7
  obtain ⟨p0, p1, p2, p3, p4, p5, p6, p7⟩ := dcs HF.out.wf S.out.o
  go_wp2_with (fail)
  refine (csh o.kind 4 _).mono ?_
  rintro e w1 ⟨rfl, hb1⟩
  rw [hasD_D o.kind, FD]
  replace S := Lib.hid (S.out.step hb1)
  clear hb1 p0 p1 p2 p3 p4 p5 p6 p7
  obtain ⟨p0, p1, p2, p3, p4, p5, p6, p7⟩ := dcs HF.out.wf S.out.o
  go_wp2_with (fail)
  refine (csh o.kind 8 _).mono ?_
  rintro e w1 ⟨rfl, hb1⟩
  rw [hasD_F o.kind, FF]
  replace S := Lib.hid (S.out.step hb1)
  clear hb1 p0 p1 p2 p3 p4 p5 p6 p7
  obtain ⟨p0, p1, p2, p3, p4, p5, p6, p7⟩ := dcs HF.out.wf S.out.o
  go_wp2_with (fail)
  refine (csh o.kind 16 _).mono ?_
  rintro e w1 ⟨rfl, hb1⟩
  rw [hasD_W o.kind, FW]
  replace S := Lib.hid (S.out.step hb1)
  clear hb1 p0 p1 p2 p3 p4 p5 p6 p7
  obtain ⟨p0, p1, p2, p3, p4, p5, p6, p7⟩ := dcs HF.out.wf S.out.o
  go_wp2_with (fail)
  refine (csh o.kind 32 _).mono ?_
  rintro e w1 ⟨rfl, hb1⟩
  rw [hasD_K o.kind, FK]
  replace S := Lib.hid (S.out.step hb1)
  clear hb1 p0 p1 p2 p3 p4 p5 p6 p7
  obtain ⟨p0, p1, p2, p3, p4, p5, p6, p7⟩ := dcs HF.out.wf S.out.o
  go_wp2_with (fail)
  refine (csh o.kind 64 _).mono ?_
  rintro e w1 ⟨rfl, hb1⟩
  rw [hasD_T o.kind, FT]
  replace S := Lib.hid (S.out.step hb1)
  clear hb1 p0 p1 p2 p3 p4 p5 p6 p7
  obtain ⟨p0, p1, p2, p3, p4, p5, p6, p7⟩ := dcs HF.out.wf S.out.o
  go_wp2_with (fail)
  refine (c_octet_Str acc A1 c1 o.text _ (S.out.inb (by omega)) HF.out.t).mono ?_
  rintro e w2 ⟨v2, rfl, own2, hb2⟩
  obtain ⟨l2, hl2⟩ : ∃ l, l = acc ++ strB o.text := ⟨_, rfl⟩
  rw [← hl2] at own2
  have hl2n : l2.length ≤ b.length + 10014 := by rw [hl2, List.length_append]; omega
  replace HA := Lib.hid (hl2.trans (by rw [HA.out]))
  obtain ⟨A2, c2, rfl, -⟩ := In.of_own bc_len own2 (by omega)
  replace S := Lib.hid (S.out.put hb2 own2)
  clear hb2 own2 hl2 p0 p1 p2 p3 p4 p5 p6 p7
  obtain ⟨p0, p1, p2, p3, p4, p5, p6, p7⟩ := dcs HF.out.wf S.out.o
  go_wp2_with (fail)
  go_ret
  exact RetS.of S.out.own (Nat.le_refl _) (by rw [HA.out, HK.out]; simp) S.out.below
set_option maxHeartbeats 40000000 in
set_option maxRecDepth 10000 in
theorem script_put_E (b : List UInt8) (B : Option Addr) (cb : Nat) (o : Deed) (q : Where) (w : World) (hb : InB w B cb b) (hbl : b.length ≤ 800000) (hT : Tab w) (ho : o.fit) (hq : o.at_ w q) (hk : o.kind = 1) :
    Calls Tryd.prog 39 #[.slice B b.length cb, .agg (o.arr q)] w (RetS 1 bc 5 w (b ++ deedB o)) := by
  have FE : dE o.kind = true := by unfold dE; simp; omega
  have FN : dN o.kind = false := by unfold dN; simp; omega
  have FD : dD o.kind = false := by unfold dD; simp; omega
  have FF : dF o.kind = false := by unfold dF; simp; omega
  have FW : dW o.kind = false := by unfold dW; simp; omega
  have FK : dK o.kind = false := by unfold dK; simp; omega
  have FT : dT o.kind = false := by unfold dT; simp; omega
  have HK := Lib.hid (show deedB o = num o.kind ++ (editB o.e) by unfold deedB deedT; rw [FE, FN, FD, FF, FW, FK, FT]; simp)
  have hel := editB_len' o.e
  have hL := hb.1
  have hC := hb.2.1
  have HF := Lib.hid ho
  have HQ := Lib.hid hq
  have HB := Lib.hid hb
  have HT := Lib.hid hT
  have hn0 := (num_len o.kind).2
  have B0 := Lib.hid (At.new w 38 (o.arr q))
  obtain ⟨p0, p1, p2, p3, p4, p5, p6, p7⟩ := dcs ho.wf B0.out.2
  clear hb hT ho hq hk
  go_enter Tryd.func39, Tryd.ntmps39
  go_wp2_with (fail)
  refine (c_octet_Num b B cb o.kind _ (HB.out.below B0.out.1)).mono ?_
  rintro e w1 ⟨v1, rfl, own1, hb1⟩
  obtain ⟨acc, hacc⟩ : ∃ l, l = b ++ num o.kind := ⟨_, rfl⟩
  rw [← hacc] at own1
  have han : acc.length ≤ b.length + 7 := by rw [hacc, List.length_append]; omega
  have HA := Lib.hid hacc
  obtain ⟨A1, c1, rfl, -⟩ := In.of_own bc_len own1 (by omega)
  have S := Lib.hid (show PT w w1 o q acc A1 c1 from ⟨B0.out.1.trans (hb1.mono B0.out.1.size), B0.out.2.below hb1 B0.out.2.lt, own_base own1 B0.out.1.size⟩)
  clear own1 hb1 hacc B0 p0 p1 p2 p3 p4 p5 p6 p7
  obtain ⟨p0, p1, p2, p3, p4, p5, p6, p7⟩ := dcs HF.out.wf S.out.o
  go_wp2_with (fail)
  refine (csh o.kind 1 _).mono ?_
  rintro e w1 ⟨rfl, hb1⟩
  rw [hasD_E o.kind, FE]
  replace S := Lib.hid (S.out.step hb1)
  clear hb1 p0 p1 p2 p3 p4 p5 p6 p7
  obtain ⟨p0, p1, p2, p3, p4, p5, p6, p7⟩ := dcs HF.out.wf S.out.o
  go_wp2_with (with_reducible refine slG 30 (.tmp 15) rfl ?_)
  refine Stop.mk (wlG (by rfl) _ _ rfl w.heap.size 4 rfl o.e.arr (deed_edit HF.out.wf S.out.o) strE (by rw [Edit.arr_size, HF.out.wf.e]) ?_)
  go_wp2_with (fail)
  refine (c_edit_Put acc A1 c1 o.e _ (S.out.inb (by omega)) (by omega) (HT.out.below S.out.below) HF.out.wf.e HF.out.es HF.out.em).mono ?_
  rintro e w2 ⟨v2, rfl, own2, hb2⟩
  obtain ⟨l2, hl2⟩ : ∃ l, l = acc ++ editB o.e := ⟨_, rfl⟩
  rw [← hl2] at own2
  have hl2n : l2.length ≤ b.length + 400 := by rw [hl2, List.length_append]; omega
  replace HA := Lib.hid (hl2.trans (by rw [HA.out]))
  obtain ⟨A2, c2, rfl, -⟩ := In.of_own bc_len own2 (by omega)
  replace S := Lib.hid (S.out.put hb2 own2)
  clear hb2 own2 hl2 p0 p1 p2 p3 p4 p5 p6 p7
  obtain ⟨p0, p1, p2, p3, p4, p5, p6, p7⟩ := dcs HF.out.wf S.out.o
  go_wp2_with (fail)
  refine (csh o.kind 2 _).mono ?_
  rintro e w1 ⟨rfl, hb1⟩
  rw [hasD_N o.kind, FN]
  replace S := Lib.hid (S.out.step hb1)
  clear hb1 p0 p1 p2 p3 p4 p5 p6 p7
  obtain ⟨p0, p1, p2, p3, p4, p5, p6, p7⟩ := dcs HF.out.wf S.out.o
  go_wp2_with (fail)
  refine (csh o.kind 4 _).mono ?_
  rintro e w1 ⟨rfl, hb1⟩
  rw [hasD_D o.kind, FD]
  replace S := Lib.hid (S.out.step hb1)
  clear hb1 p0 p1 p2 p3 p4 p5 p6 p7
  obtain ⟨p0, p1, p2, p3, p4, p5, p6, p7⟩ := dcs HF.out.wf S.out.o
  go_wp2_with (fail)
  refine (csh o.kind 8 _).mono ?_
  rintro e w1 ⟨rfl, hb1⟩
  rw [hasD_F o.kind, FF]
  replace S := Lib.hid (S.out.step hb1)
  clear hb1 p0 p1 p2 p3 p4 p5 p6 p7
  obtain ⟨p0, p1, p2, p3, p4, p5, p6, p7⟩ := dcs HF.out.wf S.out.o
  go_wp2_with (fail)
  refine (csh o.kind 16 _).mono ?_
  rintro e w1 ⟨rfl, hb1⟩
  rw [hasD_W o.kind, FW]
  replace S := Lib.hid (S.out.step hb1)
  clear hb1 p0 p1 p2 p3 p4 p5 p6 p7
  obtain ⟨p0, p1, p2, p3, p4, p5, p6, p7⟩ := dcs HF.out.wf S.out.o
  go_wp2_with (fail)
  refine (csh o.kind 32 _).mono ?_
  rintro e w1 ⟨rfl, hb1⟩
  rw [hasD_K o.kind, FK]
  replace S := Lib.hid (S.out.step hb1)
  clear hb1 p0 p1 p2 p3 p4 p5 p6 p7
  obtain ⟨p0, p1, p2, p3, p4, p5, p6, p7⟩ := dcs HF.out.wf S.out.o
  go_wp2_with (fail)
  refine (csh o.kind 64 _).mono ?_
  rintro e w1 ⟨rfl, hb1⟩
  rw [hasD_T o.kind, FT]
  replace S := Lib.hid (S.out.step hb1)
  clear hb1 p0 p1 p2 p3 p4 p5 p6 p7
  obtain ⟨p0, p1, p2, p3, p4, p5, p6, p7⟩ := dcs HF.out.wf S.out.o
  go_wp2_with (fail)
  go_ret
  exact RetS.of S.out.own (Nat.le_refl _) (by rw [HA.out, HK.out]; simp) S.out.below
end Go.Proofs.YtiedkcijjfmhaaaDoor
namespace Go.Proofs.YtiedkcijjfmhaaaDoor
open Go.RowKit

set_option maxHeartbeats 40000000 in
set_option maxRecDepth 10000 in
theorem script_put_F (b : List UInt8) (B : Option Addr) (cb : Nat) (o : Deed) (q : Where) (w : World) (hb : InB w B cb b) (hbl : b.length ≤ 800000) (hT : Tab w) (ho : o.fit) (hq : o.at_ w q) (hk : o.kind = 3) :
    Calls Tryd.prog 39 #[.slice B b.length cb, .agg (o.arr q)] w (RetS 1 bc 5 w (b ++ deedB o)) := by
  have FE : dE o.kind = false := by unfold dE; simp; omega
  have FN : dN o.kind = false := by unfold dN; simp; omega
  have FD : dD o.kind = true := by unfold dD; simp; omega
  have FF : dF o.kind = true := by unfold dF; simp; omega
  have FW : dW o.kind = false := by unfold dW; simp; omega
  have FK : dK o.kind = false := by unfold dK; simp; omega
  have FT : dT o.kind = false := by unfold dT; simp; omega
  have HK := Lib.hid (show deedB o = num o.kind ++ (num o.dev ++ (putB o.f ++ num (o.mask : Int))) by unfold deedB deedT; rw [FE, FN, FD, FF, FW, FK, FT]; simp)
  have hn1 := (num_len o.dev).2
  have hn2 := (num_len (o.mask : Int)).2
  have hnf := putB_len o.f
  have hmm := ho.m
  have hL := hb.1
  have hC := hb.2.1
  have HF := Lib.hid ho
  have HQ := Lib.hid hq
  have HB := Lib.hid hb
  have HT := Lib.hid hT
  have hn0 := (num_len o.kind).2
  have B0 := Lib.hid (At.new w 38 (o.arr q))
  obtain ⟨p0, p1, p2, p3, p4, p5, p6, p7⟩ := dcs ho.wf B0.out.2
  clear hb hT ho hq hk
  go_enter Tryd.func39, Tryd.ntmps39
  go_wp2_with (fail)
  refine (c_octet_Num b B cb o.kind _ (HB.out.below B0.out.1)).mono ?_
  rintro e w1 ⟨v1, rfl, own1, hb1⟩
  obtain ⟨acc, hacc⟩ : ∃ l, l = b ++ num o.kind := ⟨_, rfl⟩
  rw [← hacc] at own1
  have han : acc.length ≤ b.length + 7 := by rw [hacc, List.length_append]; omega
  have HA := Lib.hid hacc
  obtain ⟨A1, c1, rfl, -⟩ := In.of_own bc_len own1 (by omega)
  have S := Lib.hid (show PT w w1 o q acc A1 c1 from ⟨B0.out.1.trans (hb1.mono B0.out.1.size), B0.out.2.below hb1 B0.out.2.lt, own_base own1 B0.out.1.size⟩)
  clear own1 hb1 hacc B0 p0 p1 p2 p3 p4 p5 p6 p7
  obtain ⟨p0, p1, p2, p3, p4, p5, p6, p7⟩ := dcs HF.out.wf S.out.o
  go_wp2_with (fail)
  refine (csh o.kind 1 _).mono ?_
  rintro e w1 ⟨rfl, hb1⟩
  rw [hasD_E o.kind, FE]
  replace S := Lib.hid (S.out.step hb1)
  clear hb1 p0 p1 p2 p3 p4 p5 p6 p7
  obtain ⟨p0, p1, p2, p3, p4, p5, p6, p7⟩ := dcs HF.out.wf S.out.o
  go_wp2_with (fail)
  refine (csh o.kind 2 _).mono ?_
  rintro e w1 ⟨rfl, hb1⟩
  rw [hasD_N o.kind, FN]
  replace S := Lib.hid (S.out.step hb1)
  clear hb1 p0 p1 p2 p3 p4 p5 p6 p7
  obtain ⟨p0, p1, p2, p3, p4, p5, p6, p7⟩ := dcs HF.out.wf S.out.o
  go_wp2_with (fail)
  refine (csh o.kind 4 _).mono ?_
  rintro e w1 ⟨rfl, hb1⟩
  rw [hasD_D o.kind, FD]
  replace S := Lib.hid (S.out.step hb1)
  clear hb1 p0 p1 p2 p3 p4 p5 p6 p7
  obtain ⟨p0, p1, p2, p3, p4, p5, p6, p7⟩ := dcs HF.out.wf S.out.o
  go_wp2_with (fail)
  refine (c_octet_Num acc A1 c1 o.dev _ (S.out.inb (by omega))).mono ?_
  rintro e w2 ⟨v2, rfl, own2, hb2⟩
  obtain ⟨l2, hl2⟩ : ∃ l, l = acc ++ num o.dev := ⟨_, rfl⟩
  rw [← hl2] at own2
  have hl2n : l2.length ≤ b.length + 14 := by rw [hl2, List.length_append]; omega
  replace HA := Lib.hid (hl2.trans (by rw [HA.out]))
  obtain ⟨A2, c2, rfl, -⟩ := In.of_own bc_len own2 (by omega)
  replace S := Lib.hid (S.out.put hb2 own2)
  clear hb2 own2 hl2 p0 p1 p2 p3 p4 p5 p6 p7
  obtain ⟨p0, p1, p2, p3, p4, p5, p6, p7⟩ := dcs HF.out.wf S.out.o
  go_wp2_with (fail)
  refine (csh o.kind 8 _).mono ?_
  rintro e w1 ⟨rfl, hb1⟩
  rw [hasD_F o.kind, FF]
  replace S := Lib.hid (S.out.step hb1)
  clear hb1 p0 p1 p2 p3 p4 p5 p6 p7
  obtain ⟨p0, p1, p2, p3, p4, p5, p6, p7⟩ := dcs HF.out.wf S.out.o
  go_wp2_with (fail)
  obtain ⟨l3, hl3⟩ : ∃ l, l = l2 ++ putB o.f := ⟨_, rfl⟩
  obtain ⟨l4, hl4⟩ : ∃ l, l = l3 ++ num (o.mask : Int) := ⟨_, rfl⟩
  have hl3n : l3.length ≤ b.length + 2000 := by rw [hl3, List.length_append]; omega
  have hl4n : l4.length ≤ b.length + 4000 := by rw [hl4, List.length_append]; omega
  have L2 := Lib.hid hl3
  have L3 := Lib.hid hl4
  have hbw := S.out.below.size
  replace HA := Lib.hid (hl4.trans (by rw [hl3, HA.out]))
  clear hl3 hl4 p0 p1 p2 p3 p4 p5 p6 p7
  refine wp_region_rel [Sp.own w.heap.size 5 1 bc l2, Sp.eq (.pointer (some ⟨w.heap.size, 33, none⟩)), Sp.eq (.slice q.A o.f.length q.n), Sp.own w.heap.size 5 1 bc l3, Sp.eq (.pointer (some ⟨w.heap.size, 34, none⟩)), Sp.eq (.int .u32 o.mask), Sp.eq (.int .i64 o.mask), Sp.own w.heap.size 5 1 bc l4, Sp.own w.heap.size 5 1 bc l4] 80 (by kernel_rfl) (by kernel_rfl) rfl rfl ?_ ?_
  · refine ⟨?_, ?_, ?_, ?_, ?_, ?_, ?_, ?_, ?_, trivial⟩
    all_goals (intro u w2 hb2 hd; simp [Deps, Region.binds, Sp.own_holds, Sp.eq_holds] at hd; simp only [putDeps, dstOf, Region.binds])
    case refine_1 =>
      go_wp2_with (fail); exact RelEnd.mk rfl (Below.refl _ _) (own_below S.out.own hb2)
    case refine_2 =>
      go_wp2_with (fail); exact RelEnd.mk rfl (Below.refl _ _) rfl
    case refine_3 =>
      have qq := (S.out.o.below hb2 S.out.o.lt).cell (Deed.getF HF.out.wf 0 (by omega))
      go_wp2_with (fail); exact RelEnd.mk rfl (Below.refl _ _) rfl
    case refine_4 =>
      have hx := hd.1
      obtain ⟨A4, c4, e4, in4⟩ := In.of_own bc_len hx (by omega)
      go_wp2_with (go_at_call 73; refine (c_predwire_Put l2 A4 c4 o.f q.A q.n _ in4 ((HQ.out.below S.out.below).f.below hb2) (by omega) HF.out.fs).mono ?_; rintro e w3 ⟨v3, rfl, own3, hb3⟩)
      rw [← L2.out] at own3
      exact RelEnd.mk rfl hb3 (own_base own3 (Nat.le_trans hbw hb2.size))
    case refine_5 =>
      go_wp2_with (fail); exact RelEnd.mk rfl (Below.refl _ _) rfl
    case refine_6 =>
      have qq := (S.out.o.below hb2 S.out.o.lt).cell (Deed.getF HF.out.wf 1 (by omega))
      go_wp2_with (fail); exact RelEnd.mk rfl (Below.refl _ _) rfl
    case refine_7 =>
      go_wp2_with (fail); exact RelEnd.mk rfl (Below.refl _ _) rfl
    case refine_8 =>
      have hx := hd.1
      obtain ⟨A4, c4, e4, in4⟩ := In.of_own bc_len hx (by omega)
      go_wp2_with (go_at_call 38; refine (c_octet_Num l3 A4 c4 _ _ in4).mono ?_; rintro e w3 ⟨v3, rfl, own3, hb3⟩)
      rw [← L3.out] at own3
      exact RelEnd.mk rfl hb3 (own_base own3 (Nat.le_trans hbw hb2.size))
    case refine_9 =>
      go_wp2_with (fail); exact RelEnd.mk rfl (Below.refl _ _) hd.1
  · intro u w2 hb2 hold
    simp only [RelHold, Sp.eq_holds, Sp.own_holds] at hold
    obtain ⟨-, -, -, -, -, -, -, -, hE, -⟩ := hold
    simp only [putAll, Act.put, Nat.reduceAdd, List.setIfInBounds_toArray, List.set_cons_zero, List.set_cons_succ]
    obtain ⟨A5, c5, e5, -⟩ := In.of_own bc_len hE (by omega)
    have OE := hE
    rw [e5] at OE ⊢
    replace S := Lib.hid (show PT w w2 o q l4 A5 c5 from ⟨S.out.below.trans (hb2.mono S.out.below.size), S.out.o.below hb2 S.out.o.lt, OE⟩)
    clear hE e5 OE hb2
    obtain ⟨p0, p1, p2, p3, p4, p5, p6, p7⟩ := dcs HF.out.wf S.out.o
    go_wp2_with (fail)
    refine (csh o.kind 16 _).mono ?_
    rintro e w1 ⟨rfl, hb1⟩
    rw [hasD_W o.kind, FW]
    replace S := Lib.hid (S.out.step hb1)
    clear hb1 p0 p1 p2 p3 p4 p5 p6 p7
    obtain ⟨p0, p1, p2, p3, p4, p5, p6, p7⟩ := dcs HF.out.wf S.out.o
    go_wp2_with (fail)
    refine (csh o.kind 32 _).mono ?_
    rintro e w1 ⟨rfl, hb1⟩
    rw [hasD_K o.kind, FK]
    replace S := Lib.hid (S.out.step hb1)
    clear hb1 p0 p1 p2 p3 p4 p5 p6 p7
    obtain ⟨p0, p1, p2, p3, p4, p5, p6, p7⟩ := dcs HF.out.wf S.out.o
    go_wp2_with (fail)
    refine (csh o.kind 64 _).mono ?_
    rintro e w1 ⟨rfl, hb1⟩
    rw [hasD_T o.kind, FT]
    replace S := Lib.hid (S.out.step hb1)
    clear hb1 p0 p1 p2 p3 p4 p5 p6 p7
    obtain ⟨p0, p1, p2, p3, p4, p5, p6, p7⟩ := dcs HF.out.wf S.out.o
    go_wp2_with (fail)
    go_ret
    exact RetS.of S.out.own (Nat.le_refl _) (by rw [HA.out, HK.out]; simp) S.out.below
end Go.Proofs.YtiedkcijjfmhaaaDoor
namespace Go.Proofs.YtiedkcijjfmhaaaDoor
open Go.RowKit

set_option maxHeartbeats 40000000 in
set_option maxRecDepth 10000 in
theorem script_put_W (b : List UInt8) (B : Option Addr) (cb : Nat) (o : Deed) (q : Where) (w : World) (hb : InB w B cb b) (hbl : b.length ≤ 800000) (hT : Tab w) (ho : o.fit) (hq : o.at_ w q) (hk : o.kind = 5) :
    Calls Tryd.prog 39 #[.slice B b.length cb, .agg (o.arr q)] w (RetS 1 bc 5 w (b ++ deedB o)) := by
  have FE : dE o.kind = false := by unfold dE; simp; omega
  have FN : dN o.kind = false := by unfold dN; simp; omega
  have FD : dD o.kind = true := by unfold dD; simp; omega
  have FF : dF o.kind = false := by unfold dF; simp; omega
  have FW : dW o.kind = true := by unfold dW; simp; omega
  have FK : dK o.kind = false := by unfold dK; simp; omega
  have FT : dT o.kind = false := by unfold dT; simp; omega
  have HK := Lib.hid (show deedB o = num o.kind ++ (num o.dev ++ (num o.id ++ patchB o.p)) by unfold deedB deedT; rw [FE, FN, FD, FF, FW, FK, FT]; simp)
  have hn1 := (num_len o.dev).2
  have hn2 := (num_len o.id).2
  have hnf := patchB_len o.p
  have hL := hb.1
  have hC := hb.2.1
  have HF := Lib.hid ho
  have HQ := Lib.hid hq
  have HB := Lib.hid hb
  have HT := Lib.hid hT
  have hn0 := (num_len o.kind).2
  have B0 := Lib.hid (At.new w 38 (o.arr q))
  obtain ⟨p0, p1, p2, p3, p4, p5, p6, p7⟩ := dcs ho.wf B0.out.2
  clear hb hT ho hq hk
  go_enter Tryd.func39, Tryd.ntmps39
  go_wp2_with (fail)
  refine (c_octet_Num b B cb o.kind _ (HB.out.below B0.out.1)).mono ?_
  rintro e w1 ⟨v1, rfl, own1, hb1⟩
  obtain ⟨acc, hacc⟩ : ∃ l, l = b ++ num o.kind := ⟨_, rfl⟩
  rw [← hacc] at own1
  have han : acc.length ≤ b.length + 7 := by rw [hacc, List.length_append]; omega
  have HA := Lib.hid hacc
  obtain ⟨A1, c1, rfl, -⟩ := In.of_own bc_len own1 (by omega)
  have S := Lib.hid (show PT w w1 o q acc A1 c1 from ⟨B0.out.1.trans (hb1.mono B0.out.1.size), B0.out.2.below hb1 B0.out.2.lt, own_base own1 B0.out.1.size⟩)
  clear own1 hb1 hacc B0 p0 p1 p2 p3 p4 p5 p6 p7
  obtain ⟨p0, p1, p2, p3, p4, p5, p6, p7⟩ := dcs HF.out.wf S.out.o
  go_wp2_with (fail)
  refine (csh o.kind 1 _).mono ?_
  rintro e w1 ⟨rfl, hb1⟩
  rw [hasD_E o.kind, FE]
  replace S := Lib.hid (S.out.step hb1)
  clear hb1 p0 p1 p2 p3 p4 p5 p6 p7
  obtain ⟨p0, p1, p2, p3, p4, p5, p6, p7⟩ := dcs HF.out.wf S.out.o
  go_wp2_with (fail)
  refine (csh o.kind 2 _).mono ?_
  rintro e w1 ⟨rfl, hb1⟩
  rw [hasD_N o.kind, FN]
  replace S := Lib.hid (S.out.step hb1)
  clear hb1 p0 p1 p2 p3 p4 p5 p6 p7
  obtain ⟨p0, p1, p2, p3, p4, p5, p6, p7⟩ := dcs HF.out.wf S.out.o
  go_wp2_with (fail)
  refine (csh o.kind 4 _).mono ?_
  rintro e w1 ⟨rfl, hb1⟩
  rw [hasD_D o.kind, FD]
  replace S := Lib.hid (S.out.step hb1)
  clear hb1 p0 p1 p2 p3 p4 p5 p6 p7
  obtain ⟨p0, p1, p2, p3, p4, p5, p6, p7⟩ := dcs HF.out.wf S.out.o
  go_wp2_with (fail)
  refine (c_octet_Num acc A1 c1 o.dev _ (S.out.inb (by omega))).mono ?_
  rintro e w2 ⟨v2, rfl, own2, hb2⟩
  obtain ⟨l2, hl2⟩ : ∃ l, l = acc ++ num o.dev := ⟨_, rfl⟩
  rw [← hl2] at own2
  have hl2n : l2.length ≤ b.length + 14 := by rw [hl2, List.length_append]; omega
  replace HA := Lib.hid (hl2.trans (by rw [HA.out]))
  obtain ⟨A2, c2, rfl, -⟩ := In.of_own bc_len own2 (by omega)
  replace S := Lib.hid (S.out.put hb2 own2)
  clear hb2 own2 hl2 p0 p1 p2 p3 p4 p5 p6 p7
  obtain ⟨p0, p1, p2, p3, p4, p5, p6, p7⟩ := dcs HF.out.wf S.out.o
  go_wp2_with (fail)
  refine (csh o.kind 8 _).mono ?_
  rintro e w1 ⟨rfl, hb1⟩
  rw [hasD_F o.kind, FF]
  replace S := Lib.hid (S.out.step hb1)
  clear hb1 p0 p1 p2 p3 p4 p5 p6 p7
  obtain ⟨p0, p1, p2, p3, p4, p5, p6, p7⟩ := dcs HF.out.wf S.out.o
  go_wp2_with (fail)
  refine (csh o.kind 16 _).mono ?_
  rintro e w1 ⟨rfl, hb1⟩
  rw [hasD_W o.kind, FW]
  replace S := Lib.hid (S.out.step hb1)
  clear hb1 p0 p1 p2 p3 p4 p5 p6 p7
  obtain ⟨p0, p1, p2, p3, p4, p5, p6, p7⟩ := dcs HF.out.wf S.out.o
  go_wp2_with (fail)
  obtain ⟨l3, hl3⟩ : ∃ l, l = l2 ++ num o.id := ⟨_, rfl⟩
  obtain ⟨l4, hl4⟩ : ∃ l, l = l3 ++ patchB o.p := ⟨_, rfl⟩
  have hl3n : l3.length ≤ b.length + 2000 := by rw [hl3, List.length_append]; omega
  have hl4n : l4.length ≤ b.length + 4000 := by rw [hl4, List.length_append]; omega
  have L2 := Lib.hid hl3
  have L3 := Lib.hid hl4
  have hbw := S.out.below.size
  replace HA := Lib.hid (hl4.trans (by rw [hl3, HA.out]))
  clear hl3 hl4 p0 p1 p2 p3 p4 p5 p6 p7
  refine wp_region_rel [Sp.own w.heap.size 5 1 bc l2, Sp.eq (.pointer (some ⟨w.heap.size, 3, none⟩)), Sp.eq (.int .i64 o.id), Sp.own w.heap.size 5 1 bc l3, Sp.eq (.pointer (some ⟨w.heap.size, 35, none⟩)), Sp.eq (.agg o.p.arr), Sp.own w.heap.size 5 1 bc l4, Sp.own w.heap.size 5 1 bc l4] 80 (by kernel_rfl) (by kernel_rfl) rfl rfl ?_ ?_
  · refine ⟨?_, ?_, ?_, ?_, ?_, ?_, ?_, ?_, trivial⟩
    all_goals (intro u w2 hb2 hd; simp [Deps, Region.binds, Sp.own_holds, Sp.eq_holds] at hd; simp only [putDeps, dstOf, Region.binds])
    case refine_1 =>
      go_wp2_with (fail); exact RelEnd.mk rfl (Below.refl _ _) (own_below S.out.own hb2)
    case refine_2 =>
      go_wp2_with (fail); exact RelEnd.mk rfl (Below.refl _ _) rfl
    case refine_3 =>
      have qq := (S.out.o.below hb2 S.out.o.lt).cell (Deed.getI 3 (by omega))
      go_wp2_with (fail); exact RelEnd.mk rfl (Below.refl _ _) rfl
    case refine_4 =>
      have hx := hd.1
      obtain ⟨A4, c4, e4, in4⟩ := In.of_own bc_len hx (by omega)
      go_wp2_with (go_at_call 38; refine (c_octet_Num l2 A4 c4 _ _ in4).mono ?_; rintro e w3 ⟨v3, rfl, own3, hb3⟩)
      rw [← L2.out] at own3
      exact RelEnd.mk rfl hb3 (own_base own3 (Nat.le_trans hbw hb2.size))
    case refine_5 =>
      go_wp2_with (fail); exact RelEnd.mk rfl (Below.refl _ _) rfl
    case refine_6 =>
      go_wp2_with (with_reducible refine slG 28 _ rfl ?_)
      refine Stop.mk (wlG (by simp [Region.wanted]) _ _ rfl w.heap.size 35 rfl o.p.arr (deed_patch HF.out.wf (S.out.o.below hb2 S.out.o.lt)) strP (by rw [Patch.arr_size, HF.out.wf.p]) ?_)
      go_wp2_with (fail)
      exact RelEnd.mk rfl (Below.refl _ _) rfl
    case refine_7 =>
      have hx := hd.1
      obtain ⟨A4, c4, e4, in4⟩ := In.of_own bc_len hx (by omega)
      go_wp2_with (go_at_call 74; refine (c_cardwire_PutPatch l3 A4 c4 o.p _ in4 (by omega) ((HT.out.below S.out.below).below hb2) HF.out.pm HF.out.wf.p HF.out.ps).mono ?_; rintro e w3 ⟨v3, rfl, own3, hb3⟩)
      rw [← L3.out] at own3
      exact RelEnd.mk rfl hb3 (own_base own3 (Nat.le_trans hbw hb2.size))
    case refine_8 =>
      go_wp2_with (fail); exact RelEnd.mk rfl (Below.refl _ _) hd.1
  · intro u w2 hb2 hold
    simp only [RelHold, Sp.eq_holds, Sp.own_holds] at hold
    obtain ⟨-, -, -, -, -, -, -, hE, -⟩ := hold
    simp only [putAll, Act.put, Nat.reduceAdd, List.setIfInBounds_toArray, List.set_cons_zero, List.set_cons_succ]
    obtain ⟨A5, c5, e5, -⟩ := In.of_own bc_len hE (by omega)
    have OE := hE
    rw [e5] at OE ⊢
    replace S := Lib.hid (show PT w w2 o q l4 A5 c5 from ⟨S.out.below.trans (hb2.mono S.out.below.size), S.out.o.below hb2 S.out.o.lt, OE⟩)
    clear hE e5 OE hb2
    obtain ⟨p0, p1, p2, p3, p4, p5, p6, p7⟩ := dcs HF.out.wf S.out.o
    go_wp2_with (fail)
    refine (csh o.kind 32 _).mono ?_
    rintro e w1 ⟨rfl, hb1⟩
    rw [hasD_K o.kind, FK]
    replace S := Lib.hid (S.out.step hb1)
    clear hb1 p0 p1 p2 p3 p4 p5 p6 p7
    obtain ⟨p0, p1, p2, p3, p4, p5, p6, p7⟩ := dcs HF.out.wf S.out.o
    go_wp2_with (fail)
    refine (csh o.kind 64 _).mono ?_
    rintro e w1 ⟨rfl, hb1⟩
    rw [hasD_T o.kind, FT]
    replace S := Lib.hid (S.out.step hb1)
    clear hb1 p0 p1 p2 p3 p4 p5 p6 p7
    obtain ⟨p0, p1, p2, p3, p4, p5, p6, p7⟩ := dcs HF.out.wf S.out.o
    go_wp2_with (fail)
    go_ret
    exact RetS.of S.out.own (Nat.le_refl _) (by rw [HA.out, HK.out]; simp) S.out.below
end Go.Proofs.YtiedkcijjfmhaaaDoor
