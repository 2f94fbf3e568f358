/-
  The walk of the statement ScriptTells: it answers true, whatever the acts. (Printed by gen47t.py.)
-/
import Derived.Test.YtiedkcijjfmhaaaDoorSc3
import Derived.Test.YtiedkcijjfmhaaaDoorSc30
import Derived.Test.YtiedkcijjfmhaaaDoorSc45
namespace Go.Proofs.YtiedkcijjfmhaaaDoor
open Go.RowKit

theorem wpList_lit1G {P : Program} {w : World} {ops : Array Oper} {rest : List Oper} {o : Oper} {a : Act} {Q : Exit → Act → World → Prop} (hw : Region.wanted o (yielded ops a.tmps) = true) (t e : TypeId) (x : Operand) (ho : o.op = .buildSlice t 1 #[(0, x)]) {n bytes : Nat} (I : Elem P t e n bytes) (hn : n ≤ 16777216) (E : Array Value)
    (hx : a.eval x = .agg E) (hE : E.size = n) (h : wpList P ops Q rest (a.put o.dst (.slice (some ⟨w.heap.size, 0, none⟩) 1 1)) (w.alloc (.cells E e))) : wpList P ops Q (o :: rest) a w := by
  obtain ⟨i, z, h1, h2, h3, h4, h5⟩ := I.info
  have hp := I.pos
  refine wpList_g hw fun K hK => wp_buildSlice t e 1 _ ho E i z I.under h1 h2 (by omega) (by omega) ?_ (hK _ _ h)
  have e0 : ((#[(0, x)] : Array (Nat × Operand)).map fun (i, x) => (i, a.eval x)).toList = [(0, .agg E)] := by simp [hx]
  rw [e0, fill_agg _ _ 0 0 n E [] (by simp [h3]) hE (by simp; omega)]
  rw [putAt_full _ _ (by simp; omega)]
  simp [Instr.fill]
set_option maxHeartbeats 40000000 in
set_option maxRecDepth 10000 in
theorem law47_Tells_l1 (l : List DQ) (A : Option Addr) (c : Nat) (y : DQ) (w : World) (hT : Tab w) (h : RawQ w A c l) (hy : y.o.raw w y.q) (h1 : longAll l = true) :
    Calls Tryd.prog 3 #[.slice A l.length c, .agg (y.o.arr y.q)] w (RetV w (.bool true)) := by
  have hL := h.le
  have hC := h.cap
  have HT := Lib.hid hT
  have HL := Lib.hid h
  have HY := Lib.hid hy
  have B0 := Lib.hid (At.new w 34 (y.o.arr y.q))
  clear h hT hy
  go_enter Tryd.func3, Tryd.ntmps3
  go_wp2_with (fail)
  refine (c_law47_Long l A c _ (HL.out.below B0.out.1)).mono ?_
  rintro e w1 ⟨rfl, hb1⟩
  rw [h1]
  replace B0 := Lib.hid (B0.out.step hb1)
  clear hb1 h1
  go_wp2_with (fail)
  refine (c_law47_awake _ (HT.out.below B0.out.1)).mono ?_
  rintro e w4 ⟨rfl, hb4⟩
  go_wp2_with (fail)
  go_ret
  exact RetV.bool rfl (B0.out.1.trans (hb4.mono B0.out.1.size))
set_option maxHeartbeats 40000000 in
set_option maxRecDepth 10000 in
theorem law47_Tells_l2 (l : List DQ) (A : Option Addr) (c : Nat) (y : DQ) (w : World) (hT : Tab w) (h : RawQ w A c l) (hy : y.o.raw w y.q) (h1 : longAll l = false) (h2 : y.o.long = true) :
    Calls Tryd.prog 3 #[.slice A l.length c, .agg (y.o.arr y.q)] w (RetV w (.bool true)) := by
  have hL := h.le
  have hC := h.cap
  have HT := Lib.hid hT
  have HL := Lib.hid h
  have HY := Lib.hid hy
  have B0 := Lib.hid (At.new w 34 (y.o.arr y.q))
  clear h hT hy
  go_enter Tryd.func3, Tryd.ntmps3
  go_wp2_with (fail)
  refine (c_law47_Long l A c _ (HL.out.below B0.out.1)).mono ?_
  rintro e w1 ⟨rfl, hb1⟩
  rw [h1]
  replace B0 := Lib.hid (B0.out.step hb1)
  clear hb1 h1
  go_wp2_with (with_reducible refine slG 34 (.tmp 3) rfl ?_)
  refine Stop.mk (wlG (by simp [Region.wanted, yielded]) _ _ rfl w.heap.size 0 rfl _ B0.out.2.all strOpR (Deed.arr_size y.wf) ?_)
  go_wp2_with (with_reducible refine stop_lit 22 _ rfl ?_)
  refine Stop.mk (wpList_lit1G (by simp [Region.wanted, yielded]) _ _ _ rfl elemOpR (by omega) _ rfl (Deed.arr_size y.wf) ?_)
  have IQ := Lib.hid (RawQ.lit1 y w1 34 (HY.out.below B0.out.1))
  have hz1 := B0.out.1.size
  replace B0 := Lib.hid (B0.out.alloc (.cells (y.o.arr y.q) 34))
  obtain ⟨w2, hw2⟩ : ∃ x, x = w1.alloc (.cells (y.o.arr y.q) 34) := ⟨_, rfl⟩
  rw [← hw2] at B0 IQ ⊢
  clear hw2 hz1
  have CE := Lib.hid (show Calls Tryd.prog 6 #[.slice (some ⟨w1.heap.size, 0, none⟩) 1 1] w2 (RetV w2 (.bool (longAll [y]))) from c_law47_Long [y] _ 1 w2 IQ.out)
  go_wp2_with (fail)
  refine CE.out.mono ?_
  rintro e w3 ⟨rfl, hb3⟩
  rw [longAll_one, h2]
  replace B0 := Lib.hid (B0.out.step hb3)
  clear hb3 CE IQ h2
  go_wp2_with (fail)
  refine (c_law47_awake _ (HT.out.below B0.out.1)).mono ?_
  rintro e w4 ⟨rfl, hb4⟩
  go_wp2_with (fail)
  go_ret
  exact RetV.bool rfl (B0.out.1.trans (hb4.mono B0.out.1.size))
set_option maxHeartbeats 40000000 in
set_option maxRecDepth 10000 in
theorem law47_Tells_in (l : List DQ) (A : Option Addr) (c : Nat) (y : DQ) (w : World) (hT : Tab w) (h : RawQ w A c l) (hy : y.o.raw w y.q) (h1 : longAll l = false) (h2 : y.o.long = false) :
    Calls Tryd.prog 3 #[.slice A l.length c, .agg (y.o.arr y.q)] w (RetV w (.bool true)) := by
  have FY := Lib.hid (hy.fit h2)
  have AY0 := Lib.hid (hy.at_ h2)
  have IL := Lib.hid (h.inQ h1)
  have H120 := Lib.hid (longAll_no h1).1
  have hL := h.le
  have hC := h.cap
  have HT := Lib.hid hT
  have HL := Lib.hid h
  have HY := Lib.hid hy
  have B0 := Lib.hid (At.new w 34 (y.o.arr y.q))
  clear h hT hy
  go_enter Tryd.func3, Tryd.ntmps3
  go_wp2_with (fail)
  refine (c_law47_Long l A c _ (HL.out.below B0.out.1)).mono ?_
  rintro e w1 ⟨rfl, hb1⟩
  rw [h1]
  replace B0 := Lib.hid (B0.out.step hb1)
  clear hb1 h1
  go_wp2_with (with_reducible refine slG 34 (.tmp 3) rfl ?_)
  refine Stop.mk (wlG (by simp [Region.wanted, yielded]) _ _ rfl w.heap.size 0 rfl _ B0.out.2.all strOpR (Deed.arr_size y.wf) ?_)
  go_wp2_with (with_reducible refine stop_lit 22 _ rfl ?_)
  refine Stop.mk (wpList_lit1G (by simp [Region.wanted, yielded]) _ _ _ rfl elemOpR (by omega) _ rfl (Deed.arr_size y.wf) ?_)
  have IQ := Lib.hid (RawQ.lit1 y w1 34 (HY.out.below B0.out.1))
  have hz1 := B0.out.1.size
  replace B0 := Lib.hid (B0.out.alloc (.cells (y.o.arr y.q) 34))
  obtain ⟨w2, hw2⟩ : ∃ x, x = w1.alloc (.cells (y.o.arr y.q) 34) := ⟨_, rfl⟩
  rw [← hw2] at B0 IQ ⊢
  clear hw2 hz1
  have CE := Lib.hid (show Calls Tryd.prog 6 #[.slice (some ⟨w1.heap.size, 0, none⟩) 1 1] w2 (RetV w2 (.bool (longAll [y]))) from c_law47_Long [y] _ 1 w2 IQ.out)
  go_wp2_with (fail)
  refine CE.out.mono ?_
  rintro e w3 ⟨rfl, hb3⟩
  rw [longAll_one, h2]
  replace B0 := Lib.hid (B0.out.step hb3)
  clear hb3 CE IQ h2
  have h120 := H120.out
  go_wp2_with (fail)
  go_loopw [5] (fun i wr => ∃ (k : Nat), k ≤ l.length ∧ i = .int .i64 k ∧ Hid (At w wr (y.o.arr y.q))) (fun i _ => l.length - (intOf i).toNat)
  case atStart => exact ⟨0, by omega, rfl, B0.out⟩
  case round =>
    clear B0
    obtain ⟨k, hk, rfl, B1⟩ := hrel
    by_cases hlt : k < l.length
    · have d2 : decide ((k : Int) < (l.length : Int)) = true := by simp; omega
      obtain ⟨b, off, hA, hb, hat⟩ := IL.out.at hlt
      have hmem := List.getElem_mem hlt
      have hfx := IL.out.fit _ hmem
      have hax := IL.out.at_ _ hmem
      have HAT := Lib.hid hat
      obtain ⟨x, hx⟩ : ∃ x, x = l[k] := ⟨_, rfl⟩
      rw [← hx] at HAT hfx hax
      have FX := Lib.hid hfx
      have AX := Lib.hid (hax.below B1.out.1)
      have AY := Lib.hid (AY0.out.below B1.out.1)
      have hi1 : (0 : Int) ≤ (k : Int) := by omega
      have hi2 : (k : Int) < (l.length : Int) := by omega
      clear hat hx hfx hax hmem
      subst hA
      go_wp2_with (fail)
      refine wp_region_rel [Sp.eq (.slice (some ⟨b, off, none⟩) l.length c), Sp.eq (.int .i64 k), Sp.eq (.pointer (some ⟨b, off + k * 63, none⟩)), Sp.eq (.agg (x.o.arr x.q)), Sp.eq (.agg (x.o.arr x.q)), Sp.eq (.bool x.o.ok), Sp.eq (.slice (some ⟨b, off, none⟩) l.length c), Sp.eq (.int .i64 k), Sp.eq (.pointer (some ⟨b, off + k * 63, none⟩)), Sp.eq (.agg (x.o.arr x.q)), Sp.eq (.bool x.o.ok), Sp.eq (.bool false), Sp.eq (.bool false), Sp.eq (.slice (some ⟨b, off, none⟩) l.length c), Sp.eq (.int .i64 k), Sp.eq (.pointer (some ⟨b, off + k * 63, none⟩)), Sp.eq (.agg (x.o.arr x.q)), Sp.eq (.agg (x.o.arr x.q)), Sp.eq (.agg (y.o.arr y.q)), Sp.eq (.agg (y.o.arr y.q)), Sp.eq (.bool (decide (x.o = y.o))), Sp.eq (.slice (some ⟨b, off, none⟩) l.length c), Sp.eq (.int .i64 k), Sp.eq (.pointer (some ⟨b, off + k * 63, none⟩)), Sp.eq (.agg (x.o.arr x.q)), Sp.eq (.agg (y.o.arr y.q)), Sp.eq (.bool (decide (x.o = y.o))), Sp.eq (.bool false), Sp.eq (.bool false), Sp.eq (.bool false), Sp.eq (.slice (some ⟨b, off, none⟩) l.length c), Sp.eq (.int .i64 k), Sp.eq (.pointer (some ⟨b, off + k * 63, none⟩)), Sp.eq (.agg (x.o.arr x.q)), Sp.eq (.agg (x.o.arr x.q)), Sp.eq (.slice (some ⟨b, off, none⟩) l.length c), Sp.eq (.int .i64 k), Sp.eq (.pointer (some ⟨b, off + k * 63, none⟩)), Sp.eq (.agg (x.o.arr x.q)), Sp.eq (.agg (x.o.arr x.q)), Sp.eq (.bool true), Sp.eq (.bool false), Sp.eq (.bool false)] 89 (by kernel_rfl) (by kernel_rfl) rfl rfl ?_ ?_
      · refine relgoals_genN fun fr hfr => ?_
        have HFR := Lib.hid hfr
        clear hfr
        refine ⟨?_, ?_, ?_, ?_, ?_, ?_, ?_, ?_, ?_, ?_, ?_, ?_, ?_, ?_, ?_, ?_, ?_, ?_, ?_, ?_, ?_, ?_, ?_, ?_, ?_, ?_, ?_, ?_, ?_, ?_, ?_, ?_, ?_, ?_, ?_, ?_, ?_, ?_, ?_, ?_, ?_, ?_, ?_, trivial⟩
        all_goals (intro u W2 hb2 hd; simp [Deps, Region.binds, Sp.eq_holds] at hd; simp only [putDeps, dstOf, Region.binds])
        case refine_1 =>
          rw [HFR.out]
          go_wp2_with (fail); exact RelEnd.mk rfl (Below.refl _ _) rfl
        case refine_2 =>
          rw [HFR.out]
          go_wp2_with (fail); exact RelEnd.mk rfl (Below.refl _ _) rfl
        case refine_3 =>
          rw [HFR.out]
          go_wp2_with (fail); exact RelEnd.mk rfl (Below.refl _ _) rfl
        case refine_4 =>
          rw [HFR.out]
          go_wp2_with (with_reducible refine slG 34 _ rfl ?_)
          refine Stop.mk (wlG (by simp [Region.wanted]) _ _ rfl b (off + k * 63) rfl (x.o.arr x.q) (HAT.out _ (B1.out.1.trans (hb2.mono B1.out.1.size))) strOpR (Deed.arr_size x.wf) ?_)
          go_wp2_with (fail); exact RelEnd.mk rfl (Below.refl _ _) rfl
        case refine_5 =>
          rw [HFR.out]
          go_wp2_with (go_at_call 9; refine (c_law47_To x _).mono ?_; rintro e3 W3 ⟨rfl, hb3⟩)
          exact RelEnd.mk rfl hb3 rfl
        case refine_6 =>
          rw [HFR.out]
          go_wp2_with (go_at_call 8; refine (c_script_Check x.o x.q _ FX.out (AX.out.below hb2)).mono ?_; rintro e3 W3 ⟨rfl, hb3⟩)
          exact RelEnd.mk rfl hb3 rfl
        case refine_7 =>
          rw [HFR.out]
          go_wp2_with (fail); exact RelEnd.mk rfl (Below.refl _ _) rfl
        case refine_8 =>
          rw [HFR.out]
          go_wp2_with (fail); exact RelEnd.mk rfl (Below.refl _ _) rfl
        case refine_9 =>
          rw [HFR.out]
          go_wp2_with (fail); exact RelEnd.mk rfl (Below.refl _ _) rfl
        case refine_10 =>
          rw [HFR.out]
          go_wp2_with (with_reducible refine slG 34 _ rfl ?_)
          refine Stop.mk (wlG (by simp [Region.wanted]) _ _ rfl b (off + k * 63) rfl (x.o.arr x.q) (HAT.out _ (B1.out.1.trans (hb2.mono B1.out.1.size))) strOpR (Deed.arr_size x.wf) ?_)
          go_wp2_with (fail); exact RelEnd.mk rfl (Below.refl _ _) rfl
        case refine_11 =>
          rw [HFR.out]
          go_wp2_with (go_at_call 10; refine (c_ref47_Check x.o x.q _ FX.out (AX.out.below hb2)).mono ?_; rintro e3 W3 ⟨rfl, hb3⟩)
          exact RelEnd.mk rfl hb3 rfl
        case refine_12 =>
          rw [HFR.out]
          go_wp2_with (fail); exact RelEnd.mk rfl (Below.refl _ _) rfl
        case refine_13 =>
          rw [HFR.out]
          go_wp2_with (fail); exact RelEnd.mk rfl (Below.refl _ _) rfl
        case refine_14 =>
          rw [HFR.out]
          go_wp2_with (fail); exact RelEnd.mk rfl (Below.refl _ _) rfl
        case refine_15 =>
          rw [HFR.out]
          go_wp2_with (fail); exact RelEnd.mk rfl (Below.refl _ _) rfl
        case refine_16 =>
          rw [HFR.out]
          go_wp2_with (fail); exact RelEnd.mk rfl (Below.refl _ _) rfl
        case refine_17 =>
          rw [HFR.out]
          go_wp2_with (with_reducible refine slG 34 _ rfl ?_)
          refine Stop.mk (wlG (by simp [Region.wanted, yielded]) _ _ rfl b (off + k * 63) rfl (x.o.arr x.q) (HAT.out _ (B1.out.1.trans (hb2.mono B1.out.1.size))) strOpR (Deed.arr_size x.wf) ?_)
          go_wp2_with (fail); exact RelEnd.mk rfl (Below.refl _ _) rfl
        case refine_18 =>
          rw [HFR.out]
          go_wp2_with (go_at_call 9; refine (c_law47_To x _).mono ?_; rintro e3 W3 ⟨rfl, hb3⟩)
          exact RelEnd.mk rfl hb3 rfl
        case refine_19 =>
          rw [HFR.out]
          go_wp2_with (with_reducible refine slG 34 _ rfl ?_)
          refine Stop.mk (wlG (by simp [Region.wanted, yielded]) _ _ rfl w.heap.size 0 rfl (y.o.arr y.q) ((B1.out.2.below hb2 B1.out.2.lt).all) strOpR (Deed.arr_size y.wf) ?_)
          go_wp2_with (fail); exact RelEnd.mk rfl (Below.refl _ _) rfl
        case refine_20 =>
          rw [HFR.out]
          go_wp2_with (go_at_call 9; refine (c_law47_To y _).mono ?_; rintro e3 W3 ⟨rfl, hb3⟩)
          exact RelEnd.mk rfl hb3 rfl
        case refine_21 =>
          rw [HFR.out]
          go_wp2_with (go_at_call 11; refine (c_script_Same x.o y.o x.q y.q _ x.wf y.wf (AX.out.below hb2) (AY.out.below hb2)).mono ?_; rintro e3 W3 ⟨rfl, hb3⟩)
          exact RelEnd.mk rfl hb3 rfl
        case refine_22 =>
          rw [HFR.out]
          go_wp2_with (fail); exact RelEnd.mk rfl (Below.refl _ _) rfl
        case refine_23 =>
          rw [HFR.out]
          go_wp2_with (fail); exact RelEnd.mk rfl (Below.refl _ _) rfl
        case refine_24 =>
          rw [HFR.out]
          go_wp2_with (fail); exact RelEnd.mk rfl (Below.refl _ _) rfl
        case refine_25 =>
          rw [HFR.out]
          go_wp2_with (with_reducible refine slG 34 _ rfl ?_)
          refine Stop.mk (wlG (by simp [Region.wanted, yielded]) _ _ rfl b (off + k * 63) rfl (x.o.arr x.q) (HAT.out _ (B1.out.1.trans (hb2.mono B1.out.1.size))) strOpR (Deed.arr_size x.wf) ?_)
          go_wp2_with (fail); exact RelEnd.mk rfl (Below.refl _ _) rfl
        case refine_26 =>
          rw [HFR.out]
          go_wp2_with (with_reducible refine slG 34 _ rfl ?_)
          refine Stop.mk (wlG (by simp [Region.wanted, yielded]) _ _ rfl w.heap.size 0 rfl (y.o.arr y.q) ((B1.out.2.below hb2 B1.out.2.lt).all) strOpR (Deed.arr_size y.wf) ?_)
          go_wp2_with (fail); exact RelEnd.mk rfl (Below.refl _ _) rfl
        case refine_27 =>
          rw [HFR.out]
          go_wp2_with (go_at_call 12; refine (c_ref47_Same x.o y.o x.q y.q _ x.wf y.wf (AX.out.below hb2) (AY.out.below hb2)).mono ?_; rintro e3 W3 ⟨rfl, hb3⟩)
          exact RelEnd.mk rfl hb3 rfl
        case refine_28 =>
          rw [HFR.out]
          go_wp2_with (fail); exact RelEnd.mk rfl (Below.refl _ _) rfl
        case refine_29 =>
          rw [HFR.out]
          go_wp2_with (fail); exact RelEnd.mk rfl (Below.refl _ _) rfl
        case refine_30 =>
          rw [HFR.out]
          go_wp2_with (fail); exact RelEnd.mk rfl (Below.refl _ _) rfl
        case refine_31 =>
          rw [HFR.out]
          go_wp2_with (fail); exact RelEnd.mk rfl (Below.refl _ _) rfl
        case refine_32 =>
          rw [HFR.out]
          go_wp2_with (fail); exact RelEnd.mk rfl (Below.refl _ _) rfl
        case refine_33 =>
          rw [HFR.out]
          go_wp2_with (fail); exact RelEnd.mk rfl (Below.refl _ _) rfl
        case refine_34 =>
          rw [HFR.out]
          go_wp2_with (with_reducible refine slG 34 _ rfl ?_)
          refine Stop.mk (wlG (by simp [Region.wanted, yielded]) _ _ rfl b (off + k * 63) rfl (x.o.arr x.q) (HAT.out _ (B1.out.1.trans (hb2.mono B1.out.1.size))) strOpR (Deed.arr_size x.wf) ?_)
          go_wp2_with (fail); exact RelEnd.mk rfl (Below.refl _ _) rfl
        case refine_35 =>
          rw [HFR.out]
          go_wp2_with (go_at_call 9; refine (c_law47_To x _).mono ?_; rintro e3 W3 ⟨rfl, hb3⟩)
          exact RelEnd.mk rfl hb3 rfl
        case refine_36 =>
          rw [HFR.out]
          go_wp2_with (fail); exact RelEnd.mk rfl (Below.refl _ _) rfl
        case refine_37 =>
          rw [HFR.out]
          go_wp2_with (fail); exact RelEnd.mk rfl (Below.refl _ _) rfl
        case refine_38 =>
          rw [HFR.out]
          go_wp2_with (fail); exact RelEnd.mk rfl (Below.refl _ _) rfl
        case refine_39 =>
          rw [HFR.out]
          go_wp2_with (with_reducible refine slG 34 _ rfl ?_)
          refine Stop.mk (wlG (by simp [Region.wanted, yielded]) _ _ rfl b (off + k * 63) rfl (x.o.arr x.q) (HAT.out _ (B1.out.1.trans (hb2.mono B1.out.1.size))) strOpR (Deed.arr_size x.wf) ?_)
          go_wp2_with (fail); exact RelEnd.mk rfl (Below.refl _ _) rfl
        case refine_40 =>
          rw [HFR.out]
          go_wp2_with (go_at_call 9; refine (c_law47_To x _).mono ?_; rintro e3 W3 ⟨rfl, hb3⟩)
          exact RelEnd.mk rfl hb3 rfl
        case refine_41 =>
          rw [HFR.out]
          go_wp2_with (go_at_call 11; refine (c_script_Same x.o x.o x.q x.q _ x.wf x.wf (AX.out.below hb2) (AX.out.below hb2)).mono ?_; rintro e3 W3 ⟨rfl, hb3⟩; rw [decide_eq_true (rfl : x.o = x.o)])
          exact RelEnd.mk rfl hb3 rfl
        case refine_42 =>
          rw [HFR.out]
          go_wp2_with (fail); exact RelEnd.mk rfl (Below.refl _ _) rfl
        case refine_43 =>
          rw [HFR.out]
          go_wp2_with (fail); exact RelEnd.mk rfl (Below.refl _ _) rfl
      · intro u W2 hb2 hold
        simp only [RelHold, Sp.eq_holds, Nat.reduceAdd] at hold
        obtain ⟨-, -, -, -, -, -, -, -, -, -, -, -, -, -, -, -, -, -, -, -, -, -, -, -, -, -, -, -, -, -, -, -, -, -, -, -, -, -, -, -, -, -, hE, -⟩ := hold
        simp only [putAll, Act.put, Nat.reduceAdd, List.setIfInBounds_toArray, List.set_cons_zero, List.set_cons_succ]
        rw [hE]
        replace B1 := Lib.hid (B1.out.step hb2)
        clear hE hb2 AX AY
        go_wp2_with (fail)
        go_roundw
        case rel => exact ⟨k + 1, by omega, by go_num, B1.out⟩
        case measure => simp [intOf]; omega
    · obtain rfl : k = l.length := by omega
      have d2 : decide ((l.length : Int) < (l.length : Int)) = false := by simp
      clear hlt hk
      go_wp2_with (fail)
      refine (c_law47_List l A c _ (IL.out.inn.below B1.out.1) (by omega)).mono ?_
      rintro e w4 ⟨v4, rfl, own4, hb4⟩
      obtain ⟨A4, c4, rfl, -⟩ := own_form own4
      replace B1 := Lib.hid (B1.out.step hb4)
      have IQ := Lib.hid (show InQ w4 A4 c4 l from ⟨In.own4 DQ.cells_len own4 (by omega), IL.out.fit, fun x hx => (IL.out.at_ x hx).below B1.out.1⟩)
      clear own4 hb4
      go_wp2_with (fail)
      refine (c_script_Encode l A4 c4 _ IQ.out (HT.out.below B1.out.1) (fun _ => few_of (by rw [deeds_len']; omega))).mono ?_
      rintro e w5 ⟨rfl, hb5⟩
      replace B1 := Lib.hid (B1.out.step hb5)
      clear hb5 IQ
      obtain ⟨X, hX⟩ : ∃ X, X = encB (deeds l) := ⟨_, rfl⟩
      obtain ⟨M, hM⟩ : ∃ M, M = Deed.mayAll (deeds l) := ⟨_, rfl⟩
      have HX := Lib.hid hX
      have HM := Lib.hid hM
      rw [← hX, ← hM]
      clear hX hM
      go_wp2_with (fail)
      refine (c_ref47_Encode l A c _ (IL.out.below B1.out.1) (fun _ => few_of (by rw [deeds_len']; omega))).mono ?_
      rintro e w6 ⟨rfl, hb6⟩
      rw [← HX.out, ← HM.out]
      replace B1 := Lib.hid (B1.out.step hb6)
      clear hb6
      go_wp2_with (fail)
      refine (c_law47_awake _ (HT.out.below B1.out.1)).mono ?_
      rintro e w7 ⟨rfl, hb7⟩
      go_wp2_with (fail)
      go_ret
      exact RetV.bool rfl (B1.out.1.trans (hb7.mono B1.out.1.size))
theorem c_law47_ScriptTells (l : List DQ) (A : Option Addr) (c : Nat) (y : DQ) (w : World) (hT : Tab w) (h : RawQ w A c l) (hy : y.o.raw w y.q) :
    Calls Tryd.prog 3 #[.slice A l.length c, .agg (y.o.arr y.q)] w (RetV w (.bool true)) := by
  cases h1 : longAll l
  · cases h2 : y.o.long
    · exact law47_Tells_in l A c y w hT h hy h1 h2
    · exact law47_Tells_l2 l A c y w hT h hy h1 h2
  · exact law47_Tells_l1 l A c y w hT h hy h1
end Go.Proofs.YtiedkcijjfmhaaaDoor
