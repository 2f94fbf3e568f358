/-
  The walk of script.put, a class of kinds. (Printed by gen47p.py.)
-/
import Derived.Test.YtiedkcijjfmhaaaDoorSy18
namespace Go.Proofs.YtiedkcijjfmhaaaDoor
open Go.RowKit

set_option maxHeartbeats 40000000 in
set_option maxRecDepth 10000 in
theorem script_put_K (b : List UInt8) (B : Option Addr) (cb : Nat) (o : Deed) (q : Where) (w : World) (hb : InB w B cb b) (hbl : b.length ≤ 800000) (hT : Tab w) (ho : o.fit) (hq : o.at_ w q) (hkl : o.keep.length ≤ 100) (hk : o.kind = 11) :
    Calls Tryd.prog 39 #[.slice B b.length cb, .agg (o.arr q)] w (RetS 1 bc 5 w (b ++ deedB o)) := by
  obtain ⟨FE, FN, FD, FF, FW, FK, FT⟩ : dE o.kind = false ∧ dN o.kind = false ∧ dD o.kind = false ∧ dF o.kind = false ∧ dW o.kind = false ∧ dK o.kind = true ∧ dT o.kind = false := by simp [dE, dN, dD, dF, dW, dK, dT]; omega
  have HK := lh (show deedB o = num o.kind ++ (num (o.keep.length : Int) ++ o.keep.flatMap num) by unfold deedB deedT; rw [FE, FN, FD, FF, FW, FK, FT]; simp)
  have hn1 := (num_len (o.keep.length : Int)).2
  have hL := hb.1
  have hC := hb.2.1
  have HF := lh ho
  have HQ := lh hq
  have HB := lh hb
  have HT := lh hT
  have hn0 := (num_len o.kind).2
  have B0 := lh (At.new w 38 (o.arr q))
  have ps := dcs ho.wf B0.out.2
  clear hb hT ho hq hk
  go_enter Tryd.func39, Tryd.ntmps39
  go_wp2_with (fail)
  refine (c_octet_Num b B cb o.kind _ (HB.out.below B0.out.1)).mono ?_
  rintro e w1 ⟨v1, rfl, own1, hb1⟩
  obtain ⟨acc, hacc⟩ : ∃ l, l = b ++ num o.kind := ⟨_, rfl⟩
  rw [← hacc] at own1
  have han : acc.length ≤ b.length + 7 := by rw [hacc, List.length_append]; omega
  have HA := lh hacc
  obtain ⟨A1, c1, rfl, -⟩ := In.of_own bc_len own1 (by omega)
  have S := lh (show PT w w1 o q acc A1 c1 from ⟨B0.out.1.trans (hb1.mono B0.out.1.size), B0.out.2.below hb1 B0.out.2.lt, own_base own1 B0.out.1.size⟩)
  clear own1 hb1 hacc B0 ps
  have ps := dcs HF.out.wf S.out.o
  go_wp2_with (fail)
  refine (csh o.kind 1 _).mono ?_
  rintro e w1 ⟨rfl, hb1⟩
  rw [hasD_E o.kind, FE]
  replace S := lh (S.out.step hb1)
  clear hb1 ps
  have ps := dcs HF.out.wf S.out.o
  go_wp2_with (fail)
  refine (csh o.kind 2 _).mono ?_
  rintro e w1 ⟨rfl, hb1⟩
  rw [hasD_N o.kind, FN]
  replace S := lh (S.out.step hb1)
  clear hb1 ps
  have ps := dcs HF.out.wf S.out.o
  go_wp2_with (fail)
  refine (csh o.kind 4 _).mono ?_
  rintro e w1 ⟨rfl, hb1⟩
  rw [hasD_D o.kind, FD]
  replace S := lh (S.out.step hb1)
  clear hb1 ps
  have ps := dcs HF.out.wf S.out.o
  go_wp2_with (fail)
  refine (csh o.kind 8 _).mono ?_
  rintro e w1 ⟨rfl, hb1⟩
  rw [hasD_F o.kind, FF]
  replace S := lh (S.out.step hb1)
  clear hb1 ps
  have ps := dcs HF.out.wf S.out.o
  go_wp2_with (fail)
  refine (csh o.kind 16 _).mono ?_
  rintro e w1 ⟨rfl, hb1⟩
  rw [hasD_W o.kind, FW]
  replace S := lh (S.out.step hb1)
  clear hb1 ps
  have ps := dcs HF.out.wf S.out.o
  go_wp2_with (fail)
  refine (csh o.kind 32 _).mono ?_
  rintro e w1 ⟨rfl, hb1⟩
  rw [hasD_K o.kind, FK]
  replace S := lh (S.out.step hb1)
  clear hb1 ps
  have ps := dcs HF.out.wf S.out.o
  go_wp2_with (fail)
  refine (c_octet_Num acc A1 c1 _ _ (S.out.inb (by omega))).mono ?_
  rintro e w2 ⟨v2, rfl, own2, hb2⟩
  obtain ⟨l2, hl2⟩ : ∃ l, l = acc ++ num (o.keep.length : Int) := ⟨_, rfl⟩
  rw [← hl2] at own2
  have hl2n : l2.length ≤ b.length + 14 := by rw [hl2, List.length_append]; omega
  replace HA := lh (hl2.trans (by rw [HA.out]))
  obtain ⟨A2, c2, rfl, -⟩ := In.of_own bc_len own2 (by omega)
  replace S := lh (S.out.put hb2 own2)
  clear hb2 own2 hl2 ps
  have ps := dcs HF.out.wf S.out.o
  go_wp2_with (fail)
  go_loopw [0, 6, 64] (fun v _ i wr => ∃ (k : Nat) (l : List UInt8) (A : Option Addr) (c : Nat), k ≤ o.keep.length ∧ i = .int .i64 k ∧ v = .slice A l.length c ∧ l.length ≤ b.length + 14 + 7 * k ∧ Hid (l = b ++ num o.kind ++ num (o.keep.length : Int) ++ (o.keep.take k).flatMap num) ∧ Hid (PT w wr o q l A c))
    (fun _ _ i _ => o.keep.length - (intOf i).toNat)
  case atStart => exact ⟨0, l2, A2, c2, by omega, rfl, rfl, by omega, by show _ = _; rw [HA.out]; simp, S.out⟩
  case round =>
    obtain ⟨k, acc, A3, c3, hk, rfl, rfl, han, HA, S⟩ := hrel
    have ps := dcs HF.out.wf S.out.o
    by_cases hlt : k < o.keep.length
    · obtain ⟨b9, off9, hA9, hb9, hrow9⟩ := (HQ.out.below S.out.below).k.at hlt
      have e0 : wr.cell? ⟨b9, off9 + k, none⟩ = some (.int .i64 o.keep[k]) := by have := hrow9 k hlt 0 _ rfl; simpa using this
      rw [hA9] at ps ⊢
      have hi1 : (0 : Int) ≤ (k : Int) := by omega
      have hi2 : (k : Int) < (o.keep.length : Int) := by omega
      have hnx := (num_len o.keep[k]).2
      have hkt := lh (show (o.keep.take (k + 1)).flatMap num = (o.keep.take k).flatMap num ++ num o.keep[k] by rw [List.take_succ_eq_append_getElem hlt, List.flatMap_append, List.flatMap_cons, List.flatMap_nil, List.append_nil])
      obtain ⟨x, hx⟩ : ∃ x, x = o.keep[k] := ⟨_, rfl⟩
      rw [← hx] at e0 hnx
      replace hkt := lh (by have := hkt.out; rw [← hx] at this; exact this)
      clear hx hrow9
      go_wp2_with (fail)
      refine (c_octet_Num acc A3 c3 x _ (S.out.inb (by omega))).mono ?_
      rintro e w2 ⟨v2, rfl, own2, hb2⟩
      obtain ⟨l2, hl2⟩ : ∃ l, l = acc ++ num x := ⟨_, rfl⟩
      rw [← hl2] at own2
      have hl2n : l2.length ≤ b.length + 14 + 7 * (k + 1) := by rw [hl2, List.length_append]; omega
      replace HA := lh (show l2 = b ++ num o.kind ++ num (o.keep.length : Int) ++ (o.keep.take (k + 1)).flatMap num by rw [hl2, HA.out, hkt.out]; simp)
      obtain ⟨A2, c2, rfl, -⟩ := In.of_own bc_len own2 (by omega)
      replace S := lh (S.out.put hb2 own2)
      clear hb2 own2 hl2 ps
      go_wp2_with (fail)
      go_roundw
      case rel => exact ⟨k + 1, l2, A2, c2, by omega, by go_num, rfl, hl2n, HA.out, S.out⟩
      case measure => simp [intOf]; omega
    · obtain rfl : k = o.keep.length := by omega
      have hdd : decide ((o.keep.length : Int) < (o.keep.length : Int)) = false := by simp
      replace HA := lh (by have := HA.out; rw [List.take_length] at this; exact this)
      go_wp2_with (fail)
      refine (csh o.kind 64 _).mono ?_
      rintro e w1 ⟨rfl, hb1⟩
      rw [hasD_T o.kind, FT]
      replace S := lh (S.out.step hb1)
      clear hb1 ps
      have ps := dcs HF.out.wf S.out.o
      go_wp2_with (fail)
      go_ret
      exact RetS.of S.out.own (Nat.le_refl _) (by rw [HA.out, HK.out]; simp) S.out.below
end Go.Proofs.YtiedkcijjfmhaaaDoor
