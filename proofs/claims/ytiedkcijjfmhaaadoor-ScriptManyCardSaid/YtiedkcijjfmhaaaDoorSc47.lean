/-
  The walk of the statement ScriptMany: it answers true, whatever the act and the number.
-/
import Derived.Test.YtiedkcijjfmhaaaDoorSc46
namespace Go.Proofs.YtiedkcijjfmhaaaDoor
open Go.RowKit

theorem flat_le (n : Nat) : ∀ (l : List Deed), (∀ x ∈ l, (deedB x).length ≤ n) → (l.flatMap deedB).length ≤ n * l.length
  | [], _ => by simp
  | x :: l, h => by
    have h1 := h x (List.mem_cons_self ..)
    have h2 := flat_le n l (fun y hy => h y (List.mem_cons_of_mem _ hy))
    rw [List.flatMap_cons, List.length_append, List.length_cons, Nat.mul_succ]
    omega
def leaveD : DQ := ⟨{ dz with kind := 4 }, wz, ⟨rfl, rfl⟩⟩
theorem leaveD_fit : leaveD.o.fit := fit_of ⟨rfl, rfl⟩ rfl rfl rfl rfl rfl
theorem leaveD_at (w : World) : leaveD.o.at_ w leaveD.q := at_of w rfl rfl
theorem leaveD_ok : leaveD.o.ok = true := by decide +kernel
theorem leaveD_len : (deedB leaveD.o).length ≤ 14 := by decide +kernel
theorem leaveD_arr : leaveD.o.arr leaveD.q = Deed.arr { dz with kind := 4 } wz := rfl
theorem leave_built : Tryd.prog.built 34 [(0, .int .i64 4)] = some (leaveD.o.arr leaveD.q) := by rw [leaveD_arr, dz_arr]; kernel_rfl
theorem leaves (n : Nat) : deeds (List.replicate n leaveD) = List.replicate n leaveD.o := by unfold deeds; simp
theorem leave_few : Few (deeds (List.replicate 400 leaveD)) := by
  intro k _ _
  rw [leaves]
  have := flat_le 14 ((List.replicate 400 leaveD.o).take k) (fun x hx => by
    have := List.eq_of_mem_replicate (List.mem_of_mem_take hx)
    rw [this]; exact leaveD_len)
  rw [List.length_take, List.length_replicate] at this
  omega
theorem leave_may : Deed.mayAll (deeds (List.replicate 400 leaveD)) = true := by
  rw [leaves]
  exact mayAll_of (by rw [List.length_replicate]; omega) (fun x hx => by rw [List.eq_of_mem_replicate hx]; exact leaveD_ok)
theorem rep_snoc {α : Type} (x : α) (n : Nat) : List.replicate (n + 1) x = List.replicate n x ++ [x] := List.replicate_succ'
theorem flat_snoc (l : List DQ) (x : DQ) : (l ++ [x]).flatMap DQ.cells = l.flatMap DQ.cells ++ x.cells := by rw [List.flatMap_append, List.flatMap_cons, List.flatMap_nil, List.append_nil]
def manyL (k : Nat) (y : DQ) : List DQ := List.replicate 400 leaveD ++ List.replicate k y
theorem manyL_len (k : Nat) (y : DQ) : (manyL k y).length = 400 + k := by unfold manyL; rw [List.length_append, List.length_replicate, List.length_replicate]
theorem manyL_snoc (k : Nat) (y : DQ) : manyL (k + 1) y = manyL k y ++ [y] := by unfold manyL; rw [rep_snoc y k, List.append_assoc]
theorem manyL_inQ {w : World} {A : Option Addr} {c k : Nat} {y : DQ} (h : In 63 DQ.cells w A c (manyL k y)) (hf : y.o.fit) (ha : y.o.at_ w y.q) : InQ w A c (manyL k y) := by
  refine ⟨h, fun x hx => ?_, fun x hx => ?_⟩
  · rcases List.mem_append.1 hx with hx | hx
    · rw [List.eq_of_mem_replicate hx]; exact leaveD_fit
    · rw [List.eq_of_mem_replicate hx]; exact hf
  · rcases List.mem_append.1 hx with hx | hx
    · rw [List.eq_of_mem_replicate hx]; exact leaveD_at w
    · rw [List.eq_of_mem_replicate hx]; exact ha
theorem many_tmod (m : Nat) : Int.tmod (m : Int) 4 = ((m % 4 : Nat) : Int) := rfl
set_option maxHeartbeats 40000000 in
set_option maxRecDepth 10000 in
theorem law47_Many_l1 (y : DQ) (m : Nat) (w : World) (hT : Tab w) (hy : y.o.raw w y.q) (_hm : m ≤ 255) (h1 : y.o.long = true) :
    Calls Tryd.prog 4 #[.agg (y.o.arr y.q), .int .u8 m] w (RetV w (.bool true)) := by
  have HT := Lib.hid hT
  have HY := Lib.hid hy
  have B0 := Lib.hid (At.new w 34 (y.o.arr y.q))
  clear hy hT
  go_enter Tryd.func4, Tryd.ntmps4
  go_wp2_with (with_reducible refine stop_load 34 (.tmp 2) rfl rfl ?_)
  refine Stop.mk (wpList_loadB rfl _ _ rfl w.heap.size rfl _ B0.out.2 strOpR (Deed.arr_size y.wf) ?_)
  go_wp2_with (with_reducible refine stop_lit 22 _ rfl ?_)
  refine Stop.mk (wpList_lit1 rfl _ _ _ rfl elemOpR (by omega) _ rfl (Deed.arr_size y.wf) ?_)
  obtain ⟨w1, hw1⟩ : ∃ x, x = w.alloc (.cells (y.o.arr y.q) 34) := ⟨_, rfl⟩
  rw [← hw1] at B0 ⊢
  have IQ := Lib.hid (RawQ.lit1 y w1 34 (HY.out.below B0.out.1))
  replace B0 := Lib.hid (B0.out.alloc (.cells (y.o.arr y.q) 34))
  obtain ⟨w2, hw2⟩ : ∃ x, x = w1.alloc (.cells (y.o.arr y.q) 34) := ⟨_, rfl⟩
  rw [← hw2] at B0 IQ ⊢
  clear hw2 hw1
  have CE := Lib.hid (show Calls Tryd.prog 6 #[.slice (some ⟨w1.heap.size, 0, none⟩) 1 1] w2 (RetV w2 (.bool (longAll [y]))) from c_law47_Long [y] _ 1 w2 IQ.out)
  go_wp2_with (fail)
  refine CE.out.mono ?_
  rintro e w3 ⟨rfl, hb3⟩
  rw [longAll_one, h1]
  replace B0 := Lib.hid (B0.out.step hb3)
  clear hb3 CE IQ h1
  go_wp2_with (fail)
  refine (c_law47_awake _ (HT.out.below B0.out.1)).mono ?_
  rintro e w4 ⟨rfl, hb4⟩
  go_wp2_with (fail)
  go_ret
  exact RetV.bool rfl (B0.out.1.trans (hb4.mono B0.out.1.size))
set_option maxHeartbeats 40000000 in
set_option maxRecDepth 10000 in
theorem law47_Many_l2 (y : DQ) (m : Nat) (w : World) (hT : Tab w) (hy : y.o.raw w y.q) (_hm : m ≤ 255) (h1 : y.o.long = false) (h2 : y.o.ok = false) :
    Calls Tryd.prog 4 #[.agg (y.o.arr y.q), .int .u8 m] w (RetV w (.bool true)) := by
  have FY := Lib.hid (hy.fit h1)
  have AY := Lib.hid (hy.at_ h1)
  have HT := Lib.hid hT
  have HY := Lib.hid hy
  have B0 := Lib.hid (At.new w 34 (y.o.arr y.q))
  clear hy hT
  go_enter Tryd.func4, Tryd.ntmps4
  go_wp2_with (with_reducible refine stop_load 34 (.tmp 2) rfl rfl ?_)
  refine Stop.mk (wpList_loadB rfl _ _ rfl w.heap.size rfl _ B0.out.2 strOpR (Deed.arr_size y.wf) ?_)
  go_wp2_with (with_reducible refine stop_lit 22 _ rfl ?_)
  refine Stop.mk (wpList_lit1 rfl _ _ _ rfl elemOpR (by omega) _ rfl (Deed.arr_size y.wf) ?_)
  obtain ⟨w1, hw1⟩ : ∃ x, x = w.alloc (.cells (y.o.arr y.q) 34) := ⟨_, rfl⟩
  rw [← hw1] at B0 ⊢
  have IQ := Lib.hid (RawQ.lit1 y w1 34 (HY.out.below B0.out.1))
  replace B0 := Lib.hid (B0.out.alloc (.cells (y.o.arr y.q) 34))
  obtain ⟨w2, hw2⟩ : ∃ x, x = w1.alloc (.cells (y.o.arr y.q) 34) := ⟨_, rfl⟩
  rw [← hw2] at B0 IQ ⊢
  clear hw2 hw1
  have CE := Lib.hid (show Calls Tryd.prog 6 #[.slice (some ⟨w1.heap.size, 0, none⟩) 1 1] w2 (RetV w2 (.bool (longAll [y]))) from c_law47_Long [y] _ 1 w2 IQ.out)
  go_wp2_with (fail)
  refine CE.out.mono ?_
  rintro e w3 ⟨rfl, hb3⟩
  rw [longAll_one, h1]
  replace B0 := Lib.hid (B0.out.step hb3)
  clear hb3 CE IQ h1
  go_wp2_with (with_reducible refine slG 34 (.tmp 2) rfl ?_)
  refine Stop.mk (wlG (by simp [Region.wanted, yielded]) _ _ rfl w.heap.size 0 rfl _ B0.out.2.all strOpR (Deed.arr_size y.wf) ?_)
  go_wp2_with (fail)
  refine (c_ref47_Check y.o y.q _ FY.out (AY.out.below B0.out.1)).mono ?_
  rintro e w5 ⟨rfl, hb5⟩
  rw [h2]
  replace B0 := Lib.hid (B0.out.step hb5)
  clear hb5 h2
  go_wp2_with (fail)
  refine (c_law47_awake _ (HT.out.below B0.out.1)).mono ?_
  rintro e w4 ⟨rfl, hb4⟩
  go_wp2_with (fail)
  go_ret
  exact RetV.bool rfl (B0.out.1.trans (hb4.mono B0.out.1.size))
set_option maxHeartbeats 40000000 in
set_option maxRecDepth 10000 in
theorem law47_Many_in (y : DQ) (m : Nat) (w : World) (hT : Tab w) (hy : y.o.raw w y.q) (hm : m ≤ 255) (h1 : y.o.long = false) (h2 : y.o.ok = true) :
    Calls Tryd.prog 4 #[.agg (y.o.arr y.q), .int .u8 m] w (RetV w (.bool true)) := by
  have FY := Lib.hid (hy.fit h1)
  have AY := Lib.hid (hy.at_ h1)
  have HT := Lib.hid hT
  have HY := Lib.hid hy
  have B0 := Lib.hid (At.new w 34 (y.o.arr y.q))
  clear hy hT
  go_enter Tryd.func4, Tryd.ntmps4
  go_wp2_with (with_reducible refine stop_load 34 (.tmp 2) rfl rfl ?_)
  refine Stop.mk (wpList_loadB rfl _ _ rfl w.heap.size rfl _ B0.out.2 strOpR (Deed.arr_size y.wf) ?_)
  go_wp2_with (with_reducible refine stop_lit 22 _ rfl ?_)
  refine Stop.mk (wpList_lit1 rfl _ _ _ rfl elemOpR (by omega) _ rfl (Deed.arr_size y.wf) ?_)
  obtain ⟨w1, hw1⟩ : ∃ x, x = w.alloc (.cells (y.o.arr y.q) 34) := ⟨_, rfl⟩
  rw [← hw1] at B0 ⊢
  have IQ := Lib.hid (RawQ.lit1 y w1 34 (HY.out.below B0.out.1))
  replace B0 := Lib.hid (B0.out.alloc (.cells (y.o.arr y.q) 34))
  obtain ⟨w2, hw2⟩ : ∃ x, x = w1.alloc (.cells (y.o.arr y.q) 34) := ⟨_, rfl⟩
  rw [← hw2] at B0 IQ ⊢
  clear hw2 hw1
  have CE := Lib.hid (show Calls Tryd.prog 6 #[.slice (some ⟨w1.heap.size, 0, none⟩) 1 1] w2 (RetV w2 (.bool (longAll [y]))) from c_law47_Long [y] _ 1 w2 IQ.out)
  go_wp2_with (fail)
  refine CE.out.mono ?_
  rintro e w3 ⟨rfl, hb3⟩
  rw [longAll_one, h1]
  replace B0 := Lib.hid (B0.out.step hb3)
  clear hb3 CE IQ h1
  go_wp2_with (with_reducible refine slG 34 (.tmp 2) rfl ?_)
  refine Stop.mk (wlG (by simp [Region.wanted, yielded]) _ _ rfl w.heap.size 0 rfl _ B0.out.2.all strOpR (Deed.arr_size y.wf) ?_)
  go_wp2_with (fail)
  refine (c_ref47_Check y.o y.q _ FY.out (AY.out.below B0.out.1)).mono ?_
  rintro e w5 ⟨rfl, hb5⟩
  rw [h2]
  replace B0 := Lib.hid (B0.out.step hb5)
  clear hb5 h2
  have HG := Lib.hid (show w.heap.size < w5.heap.size from B0.out.2.lt)
  obtain ⟨G, hG⟩ : ∃ G, G = w5.heap.size := ⟨_, rfl⟩
  rw [← hG] at HG
  have HG0 := Lib.hid (show G ≤ w5.heap.size by omega)
  have B1 := Lib.hid (B0.out.alloc (.cells #[] 38))
  have S1 : (w5.alloc (.cells #[] 38)).heap.size = w5.heap.size + 1 := by simp
  have HG1 := Lib.hid (show G ≤ (w5.alloc (.cells #[] 38)).heap.size by omega)
  clear B0 S1 hG
  go_wp2_with (fail)
  go_loopw [5, 6] (fun v i wr => ∃ (k : Nat), k ≤ 400 ∧ i = .int .i64 k ∧ Hid (At w wr (y.o.arr y.q)) ∧ Hid (G ≤ wr.heap.size) ∧ Hid (wr.ownsRow G 38 63 v k ((List.replicate k leaveD).flatMap DQ.cells))) (fun _ i _ => 400 - (intOf i).toNat)
  case atStart => exact ⟨0, by omega, rfl, B1.out, HG1.out, World.ownsRow_lit w5 #[] 0 HG0.out (by unfold maxLen; omega) (by simp)⟩
  case round =>
    clear B1 HG0 HG1
    obtain ⟨k, hk, rfl, B0, HGw, O⟩ := hrel
    obtain ⟨A9, c9, rfl, -, -⟩ := own_form O.out
    by_cases hlt : k < 400
    · have d1 : decide ((k : Int) < 400) = true := by simp; omega
      go_wp2_with (with_reducible refine stop_build 34 _ rfl ?_)
      refine Stop.mk (wpList_buildD rfl _ _ rfl [(0, .int .i64 4)] (by rfl) (leaveD.o.arr leaveD.q) leave_built ?_)
      go_wp2_with (fail)
      refine (c_law47_To leaveD _).mono ?_
      rintro e w6 ⟨rfl, hb6⟩
      replace B0 := Lib.hid (B0.out.step hb6)
      replace O := Lib.hid (own_below O.out hb6)
      have hz6 : G ≤ w6.heap.size := Nat.le_trans HGw.out hb6.size
      clear hb6
      go_wp2_with (with_reducible refine stop_lit 45 _ rfl ?_)
      refine Stop.mk (wpList_lit1 rfl _ _ _ rfl elemOp (by omega) _ rfl (Deed.arr_size leaveD.wf) ?_)
      go_wp2_with ((at_builtin; refine Stop.out ?_))
      refine Stop.mk (wpList_app _ rfl _ _ elemOp rfl G (.slice A9 (k) c9) (k) _ rfl (own_below O.out ((Below.refl _ _).alloc (Nat.le_refl _) _)) _ 1 1 leaveD.cells rfl (by have := Src.new w6 leaveD.cells 38 63 leaveD.cells_len; unfold DQ.cells at this ⊢; simpa using this) leaveD.one (by omega) (by simp; omega) ?_)
      intro v7 w7 own7 _ hb7 _
      have hzz : (w6.alloc (.cells (leaveD.o.arr leaveD.q) 38)).heap.size = w6.heap.size + 1 := by simp
      have hs7 := hb7.size
      have B7 := Lib.hid (show At w w7 (y.o.arr y.q) from ⟨(B0.out.1.alloc B0.out.1.size _).trans (hb7.mono (Nat.le_of_lt HG.out)), (B0.out.2.below ((Below.refl _ _).alloc (Nat.le_refl _) _) B0.out.2.lt).below hb7 HG.out⟩)
      have O7 := Lib.hid (show w7.ownsRow G 38 63 v7 (k + 1) ((List.replicate (k + 1) leaveD).flatMap DQ.cells) by rw [rep_snoc, flat_snoc]; exact own7)
      have HG7 := Lib.hid (show G ≤ w7.heap.size by omega)
      clear own7 hb7 hs7 hzz B0 O HGw
      go_wp2_with (fail)
      go_roundw
      case rel => exact ⟨k + 1, by omega, by go_num, B7.out, HG7.out, O7.out⟩
      case measure => simp [intOf]; omega
    · obtain rfl : k = 400 := by omega
      have d1 : decide (((400 : Nat) : Int) < 400) = false := by decide
      have IQ := Lib.hid (manyL_inQ (k := 0) (y := y) (In.own4 DQ.cells_len (show wr.ownsRow G 38 63 (.slice A9 (manyL 0 y).length c9) (manyL 0 y).length ((manyL 0 y).flatMap DQ.cells) by rw [manyL_len]; unfold manyL; rw [List.replicate_zero, List.append_nil]; exact O.out) (by rw [manyL_len]; omega)) FY.out (AY.out.below B0.out.1))
      have CE := Lib.hid (show Calls Tryd.prog 13 #[.slice A9 400 c9] wr (RetEnc wr (deeds (List.replicate 400 leaveD))) by
        have h0 : manyL 0 y = List.replicate 400 leaveD := by unfold manyL; rw [List.replicate_zero, List.append_nil]
        have := c_script_Encode (manyL 0 y) A9 c9 wr IQ.out (HT.out.below B0.out.1) (fun _ => by rw [h0]; exact leave_few)
        rw [h0, List.length_replicate] at this
        exact this)
      go_wp2_with (fail)
      refine CE.out.mono ?_
      rintro e w6 ⟨rfl, hb6⟩
      rw [leave_may]
      obtain ⟨X, hX⟩ : ∃ X, X = encB (deeds (List.replicate 400 leaveD)) := ⟨_, rfl⟩
      rw [← hX]
      replace B0 := Lib.hid (B0.out.step hb6)
      replace O := Lib.hid (own_below O.out hb6)
      have HG6 := Lib.hid (show G ≤ w6.heap.size from Nat.le_trans HGw.out hb6.size)
      clear hb6 IQ CE hX HGw hlt hk
      have kw : IntKind.i64.wrap (m : Int) = (m : Int) := IntWalk.i64_in _ (by omega)
      go_wp2_with (fail)
      go_loopw [5, 9] (fun v i wr => ∃ (k : Nat), k ≤ m % 4 + 1 ∧ i = .int .i64 k ∧ Hid (At w wr (y.o.arr y.q)) ∧ Hid (G ≤ wr.heap.size) ∧ Hid (wr.ownsRow G 38 63 v (400 + k) ((manyL k y).flatMap DQ.cells))) (fun _ i _ => m % 4 + 1 - (intOf i).toNat)
      case atStart => exact ⟨0, by omega, rfl, B0.out, HG6.out, by unfold manyL; rw [List.replicate_zero, List.append_nil]; exact O.out⟩
      case round =>
        clear B0 O HG6
        obtain ⟨k, hk, rfl, B0, HGw, O⟩ := hrel
        obtain ⟨A9, c9, rfl, -, -⟩ := own_form O.out
        have kt := many_tmod m
        have hm4 : m % 4 < 4 := Nat.mod_lt _ (by omega)
        obtain ⟨r, hr⟩ : ∃ r, r = m % 4 := ⟨_, rfl⟩
        rw [← hr] at kt hk hm4
        have HR := Lib.hid hr
        clear hr
        by_cases hlt : k ≤ r
        · have d1 : decide ((k : Int) ≤ (r : Int)) = true := by simp; omega
          go_wp2_with (with_reducible refine stop_load 34 (.tmp 2) rfl rfl ?_)
          refine Stop.mk (wpList_loadB rfl _ _ rfl w.heap.size rfl _ B0.out.2 strOpR (Deed.arr_size y.wf) ?_)
          go_wp2_with (fail)
          refine (c_law47_To y _).mono ?_
          rintro e w6 ⟨rfl, hb6⟩
          replace B0 := Lib.hid (B0.out.step hb6)
          replace O := Lib.hid (own_below O.out hb6)
          have hz6 : G ≤ w6.heap.size := Nat.le_trans HGw.out hb6.size
          clear hb6
          go_wp2_with (with_reducible refine stop_lit 45 _ rfl ?_)
          refine Stop.mk (wpList_lit1 rfl _ _ _ rfl elemOp (by omega) _ rfl (Deed.arr_size y.wf) ?_)
          go_wp2_with ((at_builtin; refine Stop.out ?_))
          refine Stop.mk (wpList_app _ rfl _ _ elemOp rfl G (.slice A9 (400 + k) c9) (400 + k) _ rfl (own_below O.out ((Below.refl _ _).alloc (Nat.le_refl _) _)) _ 1 1 y.cells rfl (by have := Src.new w6 y.cells 38 63 y.cells_len; unfold DQ.cells at this ⊢; simpa using this) y.one (by omega) (by simp; omega) ?_)
          intro v7 w7 own7 _ hb7 _
          have hzz : (w6.alloc (.cells (y.o.arr y.q) 38)).heap.size = w6.heap.size + 1 := by simp
          have hs7 := hb7.size
          have B7 := Lib.hid (show At w w7 (y.o.arr y.q) from ⟨(B0.out.1.alloc B0.out.1.size _).trans (hb7.mono (Nat.le_of_lt HG.out)), (B0.out.2.below ((Below.refl _ _).alloc (Nat.le_refl _) _) B0.out.2.lt).below hb7 HG.out⟩)
          have O7 := Lib.hid (show w7.ownsRow G 38 63 v7 (400 + (k + 1)) ((manyL (k + 1) y).flatMap DQ.cells) by rw [manyL_snoc, flat_snoc]; exact own7)
          have HG7 := Lib.hid (show G ≤ w7.heap.size by omega)
          clear own7 hb7 hs7 hzz B0 O HGw
          go_wp2_with (fail)
          go_roundw
          case rel => exact ⟨k + 1, by rw [← HR.out]; omega, by go_num, B7.out, HG7.out, O7.out⟩
          case measure => rw [← HR.out]; simp [intOf]; omega
        · obtain rfl : k = r + 1 := by omega
          have d1 : decide (((r + 1 : Nat) : Int) ≤ (r : Int)) = false := by simp; omega
          have IQ := Lib.hid (manyL_inQ (k := r + 1) (y := y) (In.own4 DQ.cells_len (show wr.ownsRow G 38 63 (.slice A9 (manyL (r + 1) y).length c9) (manyL (r + 1) y).length ((manyL (r + 1) y).flatMap DQ.cells) by rw [manyL_len]; exact O.out) (by rw [manyL_len]; omega)) FY.out (AY.out.below B0.out.1))
          have CE := Lib.hid (show Calls Tryd.prog 13 #[.slice A9 (400 + (r + 1)) c9] wr (RetEnc wr (deeds (manyL (r + 1) y))) by
            have := c_script_Encode (manyL (r + 1) y) A9 c9 wr IQ.out (HT.out.below B0.out.1) (fun h => by rw [manyL_len] at h; omega)
            rw [manyL_len] at this
            exact this)
          have hbad := mayAll_long (l := deeds (manyL (r + 1) y)) (by rw [deeds_len', manyL_len]; omega)
          have HB := Lib.hid (enc_bad hbad)
          have HM := Lib.hid hbad
          clear hbad
          go_wp2_with (fail)
          refine CE.out.mono ?_
          rintro e w8 ⟨rfl, hb8⟩
          rw [HB.out, HM.out]
          replace B0 := Lib.hid (B0.out.step hb8)
          clear hb8 IQ CE O HGw
          go_wp2_with (fail)
          refine (c_law47_awake _ (HT.out.below B0.out.1)).mono ?_
          rintro e w9 ⟨rfl, hb9⟩
          go_wp2_with (fail)
          go_ret
          exact RetV.bool rfl (B0.out.1.trans (hb9.mono B0.out.1.size))
theorem c_law47_ScriptMany (y : DQ) (m : Nat) (w : World) (hT : Tab w) (hy : y.o.raw w y.q) (hm : m ≤ 255) :
    Calls Tryd.prog 4 #[.agg (y.o.arr y.q), .int .u8 m] w (RetV w (.bool true)) := by
  cases h1 : y.o.long
  · cases h2 : y.o.ok
    · exact law47_Many_l2 y m w hT hy hm h1 h2
    · exact law47_Many_in y m w hT hy hm h1 h2
  · exact law47_Many_l1 y m w hT hy hm h1
end Go.Proofs.YtiedkcijjfmhaaaDoor
