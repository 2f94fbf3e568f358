/-
  The walks of chapter 16's reference: a node, a filter taken off bytes.
-/
import Derived.Test.YtiedkcijjfmhaaaGreatDoorSr2
import Derived.Test.YtiedkcijjfmhaaaGreatDoorSr7
import Derived.Test.YtiedkcijjfmhaaaGreatDoorSr8
import Derived.Test.YtiedkcijjfmhaaaGreatDoorSr12
import Derived.Test.YtiedkcijjfmhaaaGreatDoorSr13
namespace Go.Proofs.YtiedkcijjfmhaaaGreatDoor
open Go.RowKit

set_option maxHeartbeats 400000 in
theorem c_ref16_most (op : Int) (w : World) : Calls Tryz.prog 83 #[.int .i64 op] w (RetV w (.int .i64 (belowOf op - 1))) := by
  go_enter Tryz.func83, Tryz.ntmps83
  go_wp2
  all_goals (go_ret; refine RetV.int ?_ (by repeat (first | exact Below.refl _ _ | refine Below.drew ?_ | refine Below.alloc ?_ (by first | omega | (simp; done) | (simp; omega)) _ | refine Below.setCell ?_ (by first | omega | (simp; done) | (simp; omega)) _ | refine Below.trans ?_ (Below.mono (by assumption) (by first | omega | (simp; done) | (simp; omega))))); simp_all [belowOf])
theorem strN : Str Tryz.prog 96 5 := ⟨⟨_, Tryz.underlying96, rfl⟩, by kernel_rfl⟩
set_option maxHeartbeats 1000000 in
set_option maxRecDepth 4000 in
theorem c_ref16_node_00 (h : Nat) (st : Rd) (w : World) (r : RdR w h st) (hop : rdN st 12 = 0) (he : (rdN' st 12).e = 0) : Calls Tryz.prog 67 #[.pointer (some ⟨h, 0, none⟩)] w (RetR h (ndD st) w (ndNode st).val) := by
  unfold Node.val
  have hlt := r.lt
  have hpl : ∀ g, some h = some g → g < w.heap.size := fun g e => by injection e with e; omega
  have hne0 : h ≠ w.heap.size := by omega
  have hb : ((rdN' st 12).e == 0) = true := by simpa using he
  have hN : ndNode st = ⟨0, 0, ⟨0, 0, []⟩⟩ := by simp [ndNode, ndN, ndV, hop, named_zero, valued_zero]
  have hD : ndD st = rdF (rdN' st 12) 3 := by simp [ndD, ndC, ndB, ndA, hop, named_zero, valued_zero]
  rw [hN, hD]
  have Hop := Lib.hid hop
  clear hop hN hD
  go_enter Tryz.func67, Tryz.ntmps67
  go_wp2_with (fail)
  refine (c_ref01_RNum h st 12 _ (r.below ((Below.refl _ _).alloc (Nat.le_refl _) _))).mono ?_
  rintro e w1 ⟨rfl, hr1, hk1⟩
  have hz1 := hk1.size
  simp only [World.size_alloc] at hz1
  have hne1 : h ≠ w1.heap.size := by omega
  have hne3 : w.heap.size ≠ w1.heap.size := by omega
  have hh1 : h < w1.heap.size := by omega
  have B0 := Lib.hid ((Blk.new w 96 #[.int .i64 0, .int .i64 0, .int .i64 0, .int .i64 0, .string (str [])]).kept hk1 (by simp) (ne_of_lt hpl (Nat.le_refl _)))
  have c1 : w1.cell? ⟨h, 1, none⟩ = some (.int .i64 (rdN' st 12).e) := hr1.1.cell rfl
  rw [Hop.out]
  go_wp2_with (fail)
  refine (c_ref01_Fail h _ 3 _ (hr1.below ((Below.refl _ _).alloc (Nat.le_refl _) _))).mono ?_
  rintro e w2 ⟨rfl, hr2, hk2⟩
  have hz2 := hk2.size
  simp only [World.size_alloc] at hz2
  have B2 := Lib.hid ((B0.out.below ((Below.refl _ _).alloc (Nat.le_refl _) _) B0.out.lt).kept hk2 (by simp; omega) (ne_of_lt hpl (Nat.le_refl _)))
  have C2 := Lib.hid ((Blk.new w1 96 #[.int .i64 0, .int .i64 0, .int .i64 0, .int .i64 0, .string (str [])]).kept hk2 (by simp) (ne_of_lt hpl (by omega)))
  have b0 := C2.out.five.1
  go_wp2_with (with_reducible refine stop_load 96 (.tmp 3) rfl rfl ?_)
  refine Stop.mk (wpList_loadB rfl _ (.tmp 3) rfl _ rfl _ C2.out strN rfl ?_)
  go_wp2_with (with_reducible refine stS 96 (.tmp 2) (.tmp 56) rfl rfl ?_)
  refine Stop.mk (wsB rfl _ (.tmp 2) (.tmp 56) rfl _ _ rfl rfl _ B2.out strN rfl rfl (by simp [Value.oneCell']) ?_)
  intro w9 B9 k9
  have Q9 := Lib.hid B9
  have hb9 : Below w.heap.size _ w9 := k9.oneB (by first | omega | (simp [World.setCell]; omega)) (Nat.le_refl _)
  clear B9 k9
  go_wp2_with (fail)
  exact bodyPost_ret (results_B rfl rfl Q9.out strN rfl) rfl ⟨rfl, (hr2).up (B := w.heap.size) (by repeat (first | exact Below.refl _ _ | refine Below.drew ?_ | refine Below.alloc ?_ (by first | omega | (simp; done) | (simp; omega)) _ | refine Below.setCell ?_ (by first | omega | (simp; done) | (simp; omega)) _ | refine Below.trans ?_ (Below.mono (by assumption) (by first | omega | (simp; done) | (simp; omega))))) hlt, (by repeat (first | exact Kept.refl _ _ _ | refine Kept.drew ?_ | refine Kept.alloc ?_ (by first | omega | (simp; done) | (simp; omega)) _ | refine Kept.setCell ?_ (by first | (right; rfl) | (left; first | omega | (simp; done) | (simp; omega))) _ | refine Kept.then_kept ?_ (by assumption) (by first | omega | (simp; done) | (simp; omega)) | refine Kept.then_below ?_ (by assumption) (by first | omega | (simp; done) | (simp; omega)) | refine Kept.low ?_ (by assumption)))⟩
set_option maxHeartbeats 1000000 in
set_option maxRecDepth 4000 in
theorem c_ref16_node_01 (h : Nat) (st : Rd) (w : World) (r : RdR w h st) (hop : rdN st 12 = 0) (he : (rdN' st 12).e ≠ 0) : Calls Tryz.prog 67 #[.pointer (some ⟨h, 0, none⟩)] w (RetR h (ndD st) w (ndNode st).val) := by
  unfold Node.val
  have hlt := r.lt
  have hpl : ∀ g, some h = some g → g < w.heap.size := fun g e => by injection e with e; omega
  have hne0 : h ≠ w.heap.size := by omega
  have hb : ((rdN' st 12).e == 0) = false := by simpa using he
  have hN : ndNode st = ⟨0, 0, ⟨0, 0, []⟩⟩ := by simp [ndNode, ndN, ndV, hop, named_zero, valued_zero]
  have hD : ndD st = rdF (rdN' st 12) 3 := by simp [ndD, ndC, ndB, ndA, hop, named_zero, valued_zero]
  rw [hN, hD]
  have Hop := Lib.hid hop
  clear hop hN hD
  rw [rdF_err he]
  clear he
  go_enter Tryz.func67, Tryz.ntmps67
  go_wp2_with (fail)
  refine (c_ref01_RNum h st 12 _ (r.below ((Below.refl _ _).alloc (Nat.le_refl _) _))).mono ?_
  rintro e w1 ⟨rfl, hr1, hk1⟩
  have hz1 := hk1.size
  simp only [World.size_alloc] at hz1
  have hne1 : h ≠ w1.heap.size := by omega
  have hne3 : w.heap.size ≠ w1.heap.size := by omega
  have hh1 : h < w1.heap.size := by omega
  have B0 := Lib.hid ((Blk.new w 96 #[.int .i64 0, .int .i64 0, .int .i64 0, .int .i64 0, .string (str [])]).kept hk1 (by simp) (ne_of_lt hpl (Nat.le_refl _)))
  have c1 : w1.cell? ⟨h, 1, none⟩ = some (.int .i64 (rdN' st 12).e) := hr1.1.cell rfl
  rw [Hop.out]
  have B2 := Lib.hid (B0.out.below ((Below.refl _ _).alloc (Nat.le_refl _) (.cells #[.int .i64 0, .int .i64 0, .int .i64 0, .int .i64 0, .string (str [])] 96)) B0.out.lt)
  have C2 := Lib.hid (Blk.new w1 96 #[.int .i64 0, .int .i64 0, .int .i64 0, .int .i64 0, .string (str [])])
  go_wp2_with (with_reducible refine stop_load 96 (.tmp 3) rfl rfl ?_)
  refine Stop.mk (wpList_loadB rfl _ (.tmp 3) rfl _ rfl _ C2.out strN rfl ?_)
  go_wp2_with (with_reducible refine stS 96 (.tmp 2) (.tmp 56) rfl rfl ?_)
  refine Stop.mk (wsB rfl _ (.tmp 2) (.tmp 56) rfl _ _ rfl rfl _ B2.out strN rfl rfl (by simp [Value.oneCell']) ?_)
  intro w9 B9 k9
  have Q9 := Lib.hid B9
  have hb9 : Below w.heap.size _ w9 := k9.oneB (by first | omega | (simp; omega)) (Nat.le_refl _)
  clear B9 k9
  go_wp2_with (fail)
  exact bodyPost_ret (results_B rfl rfl Q9.out strN rfl) rfl ⟨rfl, (hr1).up (B := w.heap.size) (by repeat (first | exact Below.refl _ _ | refine Below.drew ?_ | refine Below.alloc ?_ (by first | omega | (simp; done) | (simp; omega)) _ | refine Below.setCell ?_ (by first | omega | (simp; done) | (simp; omega)) _ | refine Below.trans ?_ (Below.mono (by assumption) (by first | omega | (simp; done) | (simp; omega))))) hlt, (by repeat (first | exact Kept.refl _ _ _ | refine Kept.drew ?_ | refine Kept.alloc ?_ (by first | omega | (simp; done) | (simp; omega)) _ | refine Kept.setCell ?_ (by first | (right; rfl) | (left; first | omega | (simp; done) | (simp; omega))) _ | refine Kept.then_kept ?_ (by assumption) (by first | omega | (simp; done) | (simp; omega)) | refine Kept.then_below ?_ (by assumption) (by first | omega | (simp; done) | (simp; omega)) | refine Kept.low ?_ (by assumption)))⟩
set_option maxHeartbeats 1000000 in
set_option maxRecDepth 4000 in
theorem c_ref16_node_A1 (h : Nat) (st : Rd) (w : World) (r : RdR w h st) (hop : rdN st 12 ≠ 0) (hc : rdN st 12 < 3) : Calls Tryz.prog 67 #[.pointer (some ⟨h, 0, none⟩)] w (RetR h (ndD st) w (ndNode st).val) := by
  unfold Node.val
  have hlt := r.lt
  have hpl : ∀ g, some h = some g → g < w.heap.size := fun g e => by injection e with e; omega
  have hne0 : h ≠ w.heap.size := by omega
  have hb : ((rdN' st 12).e == 0) = true := by simpa using (rdN_ok hop).2
  have hopb : ((rdN st 12) == 0) = false := by simpa using hop
  have f3 : decide (3 ≤ rdN st 12) = false := by simp; omega
  have f6 : decide (6 ≤ rdN st 12) = false := by simp; omega
  have hnm : named (rdN st 12) = false := by unfold named; simp; omega
  have hvl : valued (rdN st 12) = false := by unfold valued; simp; omega
  obtain ⟨hnd, hdd⟩ := nd_A hop hnm hvl
  rw [hnd, hdd]
  clear hnd hdd hnm hvl hop hc
  go_enter Tryz.func67, Tryz.ntmps67
  go_wp2_with (fail)
  refine (c_ref01_RNum h st 12 _ (r.below ((Below.refl _ _).alloc (Nat.le_refl _) _))).mono ?_
  rintro e w1 ⟨rfl, hr1, hk1⟩
  have hz1 := hk1.size
  simp only [World.size_alloc] at hz1
  have hne1 : h ≠ w1.heap.size := by omega
  have hne3 : w.heap.size ≠ w1.heap.size := by omega
  have hh1 : h < w1.heap.size := by omega
  have B0 := Lib.hid ((Blk.new w 96 #[.int .i64 0, .int .i64 0, .int .i64 0, .int .i64 0, .string (str [])]).kept hk1 (by simp) (ne_of_lt hpl (Nat.le_refl _)))
  have c1 : w1.cell? ⟨h, 1, none⟩ = some (.int .i64 (rdN' st 12).e) := hr1.1.cell rfl
  have B2 := Lib.hid (B0.out.below ((Below.refl _ _).alloc (Nat.le_refl _) (.cells #[.int .i64 (rdN st 12), .int .i64 0, .int .i64 0, .int .i64 0, .string (str [])] 96)) B0.out.lt)
  have C2 := Lib.hid (Blk.new w1 96 #[.int .i64 (rdN st 12), .int .i64 0, .int .i64 0, .int .i64 0, .string (str [])])
  go_wp2_with (with_reducible refine stop_load 96 (.tmp 3) rfl rfl ?_)
  refine Stop.mk (wpList_loadB rfl _ (.tmp 3) rfl _ rfl _ C2.out strN rfl ?_)
  go_wp2_with (with_reducible refine stS 96 (.tmp 2) (.tmp 56) rfl rfl ?_)
  refine Stop.mk (wsB rfl _ (.tmp 2) (.tmp 56) rfl _ _ rfl rfl _ B2.out strN rfl rfl (by simp [Value.oneCell']) ?_)
  intro w9 B9 k9
  have Q9 := Lib.hid B9
  have hb9 : Below w.heap.size _ w9 := k9.oneB (by first | omega | (simp; omega)) (Nat.le_refl _)
  clear B9 k9
  go_wp2_with (fail)
  exact bodyPost_ret (results_B rfl rfl Q9.out strN rfl) rfl ⟨rfl, (hr1).up (B := w.heap.size) (by repeat (first | exact Below.refl _ _ | refine Below.drew ?_ | refine Below.alloc ?_ (by first | omega | (simp; done) | (simp; omega)) _ | refine Below.setCell ?_ (by first | omega | (simp; done) | (simp; omega)) _ | refine Below.trans ?_ (Below.mono (by assumption) (by first | omega | (simp; done) | (simp; omega))))) hlt, (by repeat (first | exact Kept.refl _ _ _ | refine Kept.drew ?_ | refine Kept.alloc ?_ (by first | omega | (simp; done) | (simp; omega)) _ | refine Kept.setCell ?_ (by first | (right; rfl) | (left; first | omega | (simp; done) | (simp; omega))) _ | refine Kept.then_kept ?_ (by assumption) (by first | omega | (simp; done) | (simp; omega)) | refine Kept.then_below ?_ (by assumption) (by first | omega | (simp; done) | (simp; omega)) | refine Kept.low ?_ (by assumption)))⟩
set_option maxHeartbeats 1000000 in
set_option maxRecDepth 4000 in
theorem c_ref16_node_A2 (h : Nat) (st : Rd) (w : World) (r : RdR w h st) (hop : rdN st 12 ≠ 0) (hc : 9 < rdN st 12) : Calls Tryz.prog 67 #[.pointer (some ⟨h, 0, none⟩)] w (RetR h (ndD st) w (ndNode st).val) := by
  unfold Node.val
  have hlt := r.lt
  have hpl : ∀ g, some h = some g → g < w.heap.size := fun g e => by injection e with e; omega
  have hne0 : h ≠ w.heap.size := by omega
  have hb : ((rdN' st 12).e == 0) = true := by simpa using (rdN_ok hop).2
  have hopb : ((rdN st 12) == 0) = false := by simpa using hop
  have f3 : decide (3 ≤ rdN st 12) = true := by simp; omega
  have f6 : decide (6 ≤ rdN st 12) = true := by simp; omega
  have f9 : decide (rdN st 12 ≤ 9) = false := by simp; omega
  have hnm : named (rdN st 12) = false := by unfold named; simp; omega
  have hvl : valued (rdN st 12) = false := by unfold valued; simp; omega
  obtain ⟨hnd, hdd⟩ := nd_A hop hnm hvl
  rw [hnd, hdd]
  clear hnd hdd hnm hvl hop hc
  go_enter Tryz.func67, Tryz.ntmps67
  go_wp2_with (fail)
  refine (c_ref01_RNum h st 12 _ (r.below ((Below.refl _ _).alloc (Nat.le_refl _) _))).mono ?_
  rintro e w1 ⟨rfl, hr1, hk1⟩
  have hz1 := hk1.size
  simp only [World.size_alloc] at hz1
  have hne1 : h ≠ w1.heap.size := by omega
  have hne3 : w.heap.size ≠ w1.heap.size := by omega
  have hh1 : h < w1.heap.size := by omega
  have B0 := Lib.hid ((Blk.new w 96 #[.int .i64 0, .int .i64 0, .int .i64 0, .int .i64 0, .string (str [])]).kept hk1 (by simp) (ne_of_lt hpl (Nat.le_refl _)))
  have c1 : w1.cell? ⟨h, 1, none⟩ = some (.int .i64 (rdN' st 12).e) := hr1.1.cell rfl
  have B2 := Lib.hid (B0.out.below ((Below.refl _ _).alloc (Nat.le_refl _) (.cells #[.int .i64 (rdN st 12), .int .i64 0, .int .i64 0, .int .i64 0, .string (str [])] 96)) B0.out.lt)
  have C2 := Lib.hid (Blk.new w1 96 #[.int .i64 (rdN st 12), .int .i64 0, .int .i64 0, .int .i64 0, .string (str [])])
  go_wp2_with (with_reducible refine stop_load 96 (.tmp 3) rfl rfl ?_)
  refine Stop.mk (wpList_loadB rfl _ (.tmp 3) rfl _ rfl _ C2.out strN rfl ?_)
  go_wp2_with (with_reducible refine stS 96 (.tmp 2) (.tmp 56) rfl rfl ?_)
  refine Stop.mk (wsB rfl _ (.tmp 2) (.tmp 56) rfl _ _ rfl rfl _ B2.out strN rfl rfl (by simp [Value.oneCell']) ?_)
  intro w9 B9 k9
  have Q9 := Lib.hid B9
  have hb9 : Below w.heap.size _ w9 := k9.oneB (by first | omega | (simp; omega)) (Nat.le_refl _)
  clear B9 k9
  go_wp2_with (fail)
  exact bodyPost_ret (results_B rfl rfl Q9.out strN rfl) rfl ⟨rfl, (hr1).up (B := w.heap.size) (by repeat (first | exact Below.refl _ _ | refine Below.drew ?_ | refine Below.alloc ?_ (by first | omega | (simp; done) | (simp; omega)) _ | refine Below.setCell ?_ (by first | omega | (simp; done) | (simp; omega)) _ | refine Below.trans ?_ (Below.mono (by assumption) (by first | omega | (simp; done) | (simp; omega))))) hlt, (by repeat (first | exact Kept.refl _ _ _ | refine Kept.drew ?_ | refine Kept.alloc ?_ (by first | omega | (simp; done) | (simp; omega)) _ | refine Kept.setCell ?_ (by first | (right; rfl) | (left; first | omega | (simp; done) | (simp; omega))) _ | refine Kept.then_kept ?_ (by assumption) (by first | omega | (simp; done) | (simp; omega)) | refine Kept.then_below ?_ (by assumption) (by first | omega | (simp; done) | (simp; omega)) | refine Kept.low ?_ (by assumption)))⟩
set_option maxHeartbeats 1000000 in
set_option maxRecDepth 4000 in
theorem c_ref16_node_B (h : Nat) (st : Rd) (w : World) (r : RdR w h st) (hop : rdN st 12 ≠ 0) (hc : 3 ≤ rdN st 12) (hc2 : rdN st 12 < 6) : Calls Tryz.prog 67 #[.pointer (some ⟨h, 0, none⟩)] w (RetR h (ndD st) w (ndNode st).val) := by
  unfold Node.val
  have hlt := r.lt
  have hpl : ∀ g, some h = some g → g < w.heap.size := fun g e => by injection e with e; omega
  have hne0 : h ≠ w.heap.size := by omega
  have hb : ((rdN' st 12).e == 0) = true := by simpa using (rdN_ok hop).2
  have hopb : ((rdN st 12) == 0) = false := by simpa using hop
  have f3 : decide (3 ≤ rdN st 12) = true := by simp; omega
  have f9 : decide (rdN st 12 ≤ 9) = true := by simp; omega
  have f6 : decide (6 ≤ rdN st 12) = false := by simp; omega
  have hnm : named (rdN st 12) = true := by unfold named; simp; omega
  have hvl : valued (rdN st 12) = false := by unfold valued; simp; omega
  obtain ⟨hnd, hdd⟩ := nd_B hop hnm hvl
  rw [hnd, hdd]
  clear hnd hdd hnm hvl hop hc hc2
  go_enter Tryz.func67, Tryz.ntmps67
  go_wp2_with (fail)
  refine (c_ref01_RNum h st 12 _ (r.below ((Below.refl _ _).alloc (Nat.le_refl _) _))).mono ?_
  rintro e w1 ⟨rfl, hr1, hk1⟩
  have hz1 := hk1.size
  simp only [World.size_alloc] at hz1
  have hne1 : h ≠ w1.heap.size := by omega
  have hne3 : w.heap.size ≠ w1.heap.size := by omega
  have hh1 : h < w1.heap.size := by omega
  have B0 := Lib.hid ((Blk.new w 96 #[.int .i64 0, .int .i64 0, .int .i64 0, .int .i64 0, .string (str [])]).kept hk1 (by simp) (ne_of_lt hpl (Nat.le_refl _)))
  have c1 : w1.cell? ⟨h, 1, none⟩ = some (.int .i64 (rdN' st 12).e) := hr1.1.cell rfl
  have hbd := belowOf_bd (rdN st 12)
  go_wp2_with (fail)
  refine (c_ref16_most _ _).mono ?_
  rintro e w2 ⟨rfl, hb2⟩
  have hz2 := hb2.size
  simp only [World.size_alloc] at hz2
  have hr2 := (hr1.below ((Below.refl _ _).alloc (Nat.le_refl _) _)).below hb2
  go_wp2_with (fail)
  refine (c_ref01_RNum h (rdN' st 12) (belowOf (rdN st 12) - 1) _ hr2).mono ?_
  rintro e w3 ⟨rfl, hr3, hk3⟩
  have hz3 := hk3.size
  have B3 := Lib.hid (((B0.out.below ((Below.refl _ _).alloc (Nat.le_refl _) _) B0.out.lt).below hb2 (by simp; omega)).kept hk3 (by omega) (ne_of_lt hpl (Nat.le_refl _)))
  have C3 := Lib.hid (((Blk.new w1 96 #[.int .i64 (rdN st 12), (.int .i64 0), (.int .i64 0), (.int .i64 0), (.string (str []))]).below hb2 (by simp)).kept hk3 (by omega) (ne_of_lt hpl (by omega)))
  obtain ⟨b0, b1, b2, b3, b4, bf⟩ := C3.out.five
  have hh3 : h < w3.heap.size := by omega
  have B4 := Lib.hid (B3.out.far (q := ⟨w1.heap.size, 1, none⟩) (by simp; omega) (.int .i64 (rdN (rdN' st 12) (belowOf (rdN st 12) - 1))))
  have C4 := Lib.hid (C3.out.store 1 (.int .i64 (rdN (rdN' st 12) (belowOf (rdN st 12) - 1))) : Blk (w3.setCell ⟨w1.heap.size, 1, none⟩ (.int .i64 (rdN (rdN' st 12) (belowOf (rdN st 12) - 1)))) w1.heap.size #[.int .i64 (rdN st 12), (.int .i64 (rdN (rdN' st 12) (belowOf (rdN st 12) - 1))), (.int .i64 0), (.int .i64 0), (.string (str []))])
  go_wp2_with (with_reducible refine stop_load 96 (.tmp 3) rfl rfl ?_)
  refine Stop.mk (wpList_loadB rfl _ (.tmp 3) rfl _ rfl _ C4.out strN rfl ?_)
  go_wp2_with (with_reducible refine stS 96 (.tmp 2) (.tmp 56) rfl rfl ?_)
  refine Stop.mk (wsB rfl _ (.tmp 2) (.tmp 56) rfl _ _ rfl rfl _ B4.out strN rfl rfl (by simp [Value.oneCell']) ?_)
  intro w9 B9 k9
  have Q9 := Lib.hid B9
  have hb9 : Below w.heap.size _ w9 := k9.oneB (by first | omega | (simp [World.setCell]; omega)) (Nat.le_refl _)
  clear B9 k9
  go_wp2_with (fail)
  exact bodyPost_ret (results_B rfl rfl Q9.out strN rfl) rfl ⟨rfl, (hr3).up (B := w.heap.size) (by repeat (first | exact Below.refl _ _ | refine Below.drew ?_ | refine Below.alloc ?_ (by first | omega | (simp; done) | (simp; omega)) _ | refine Below.setCell ?_ (by first | omega | (simp; done) | (simp; omega)) _ | refine Below.trans ?_ (Below.mono (by assumption) (by first | omega | (simp; done) | (simp; omega))))) hlt, (by repeat (first | exact Kept.refl _ _ _ | refine Kept.drew ?_ | refine Kept.alloc ?_ (by first | omega | (simp; done) | (simp; omega)) _ | refine Kept.setCell ?_ (by first | (right; rfl) | (left; first | omega | (simp; done) | (simp; omega))) _ | refine Kept.then_kept ?_ (by assumption) (by first | omega | (simp; done) | (simp; omega)) | refine Kept.then_below ?_ (by assumption) (by first | omega | (simp; done) | (simp; omega)) | refine Kept.low ?_ (by assumption)))⟩
set_option maxHeartbeats 1000000 in
set_option maxRecDepth 4000 in
theorem c_ref16_node_C0 (h : Nat) (st : Rd) (w : World) (r : RdR w h st) (hop : rdN st 12 ≠ 0) (hc : 6 ≤ rdN st 12) (hc2 : rdN st 12 ≤ 9) (he : (rdVal' (rdN' (rdN' st 12) (belowOf (rdN st 12) - 1))).e ≠ 0) : Calls Tryz.prog 67 #[.pointer (some ⟨h, 0, none⟩)] w (RetR h (ndD st) w (ndNode st).val) := by
  unfold Node.val
  have hlt := r.lt
  have hpl : ∀ g, some h = some g → g < w.heap.size := fun g e => by injection e with e; omega
  have hne0 : h ≠ w.heap.size := by omega
  have hb : ((rdN' st 12).e == 0) = true := by simpa using (rdN_ok hop).2
  have hopb : ((rdN st 12) == 0) = false := by simpa using hop
  have f3 : decide (3 ≤ rdN st 12) = true := by simp; omega
  have f9 : decide (rdN st 12 ≤ 9) = true := by simp; omega
  have f6 : decide (6 ≤ rdN st 12) = true := by simp; omega
  have hnm : named (rdN st 12) = true := by unfold named; simp; omega
  have hvl : valued (rdN st 12) = true := by unfold valued; simp; omega
  have hve : ((rdVal' (rdN' (rdN' st 12) (belowOf (rdN st 12) - 1))).e == 0) = false := by simpa using he
  obtain ⟨hnd, hdd⟩ := nd_C hop hnm hvl
  have hdd' : ndD st = rdVal' (rdN' (rdN' st 12) (belowOf (rdN st 12) - 1)) := by rw [hdd, rdF_err he]; split <;> rfl
  rw [hnd, hdd']
  clear hdd' hdd hnd
  clear hnm hvl hop hc hc2 he
  go_enter Tryz.func67, Tryz.ntmps67
  go_wp2_with (fail)
  refine (c_ref01_RNum h st 12 _ (r.below ((Below.refl _ _).alloc (Nat.le_refl _) _))).mono ?_
  rintro e w1 ⟨rfl, hr1, hk1⟩
  have hz1 := hk1.size
  simp only [World.size_alloc] at hz1
  have hne1 : h ≠ w1.heap.size := by omega
  have hne3 : w.heap.size ≠ w1.heap.size := by omega
  have hh1 : h < w1.heap.size := by omega
  have B0 := Lib.hid ((Blk.new w 96 #[.int .i64 0, .int .i64 0, .int .i64 0, .int .i64 0, .string (str [])]).kept hk1 (by simp) (ne_of_lt hpl (Nat.le_refl _)))
  have c1 : w1.cell? ⟨h, 1, none⟩ = some (.int .i64 (rdN' st 12).e) := hr1.1.cell rfl
  have hbd := belowOf_bd (rdN st 12)
  go_wp2_with (fail)
  refine (c_ref16_most _ _).mono ?_
  rintro e w2 ⟨rfl, hb2⟩
  have hz2 := hb2.size
  simp only [World.size_alloc] at hz2
  have hr2 := (hr1.below ((Below.refl _ _).alloc (Nat.le_refl _) _)).below hb2
  go_wp2_with (fail)
  refine (c_ref01_RNum h (rdN' st 12) (belowOf (rdN st 12) - 1) _ hr2).mono ?_
  rintro e w3 ⟨rfl, hr3, hk3⟩
  have hz3 := hk3.size
  have B3 := Lib.hid (((B0.out.below ((Below.refl _ _).alloc (Nat.le_refl _) _) B0.out.lt).below hb2 (by simp; omega)).kept hk3 (by omega) (ne_of_lt hpl (Nat.le_refl _)))
  have C3 := Lib.hid (((Blk.new w1 96 #[.int .i64 (rdN st 12), (.int .i64 0), (.int .i64 0), (.int .i64 0), (.string (str []))]).below hb2 (by simp)).kept hk3 (by omega) (ne_of_lt hpl (by omega)))
  obtain ⟨b0, b1, b2, b3, b4, bf⟩ := C3.out.five
  have hh3 : h < w3.heap.size := by omega
  have hr3' := hr3.up (B := w.heap.size) (w' := w3.setCell ⟨w1.heap.size, 1, none⟩ (.int .i64 (rdN (rdN' st 12) (belowOf (rdN st 12) - 1)))) (by repeat (first | exact Below.refl _ _ | refine Below.drew ?_ | refine Below.alloc ?_ (by first | omega | (simp; done) | (simp; omega)) _ | refine Below.setCell ?_ (by first | omega | (simp; done) | (simp; omega)) _ | refine Below.trans ?_ (Below.mono (by assumption) (by first | omega | (simp; done) | (simp; omega))))) hlt
  go_wp2_with (fail)
  refine (c_ref08_Value h _ _ hr3').mono ?_
  rintro e w4 ⟨rfl, hr4, hk4⟩
  have hz4' := hk4.size
  have hz4 : w3.heap.size ≤ w4.heap.size := by simpa [World.setCell] using hz4'
  clear hz4' b0 b1 b2 b3 b4 bf
  have B4 := Lib.hid ((B3.out.far (q := ⟨w1.heap.size, 1, none⟩) (by simp; omega) (.int .i64 (rdN (rdN' st 12) (belowOf (rdN st 12) - 1)))).kept hk4 (by simp [World.setCell]; omega) (ne_of_lt hpl (Nat.le_refl _)))
  have C4 := Lib.hid (((C3.out.store 1 (.int .i64 (rdN (rdN' st 12) (belowOf (rdN st 12) - 1)))).kept hk4 (by simp [World.setCell]; omega) (ne_of_lt hpl (by omega)) : Blk w4 w1.heap.size #[.int .i64 (rdN st 12), (.int .i64 (rdN (rdN' st 12) (belowOf (rdN st 12) - 1))), (.int .i64 0), (.int .i64 0), (.string (str []))]))
  obtain ⟨b0, b1, b2, b3, b4, bf⟩ := C4.out.five
  have hh4 : h < w4.heap.size := by omega
  have d1 : w4.cell? ⟨h, 1, none⟩ = some (.int .i64 (rdVal' (rdN' (rdN' st 12) (belowOf (rdN st 12) - 1))).e) := hr4.1.cell rfl
  have hlen4 := rdVal_len (rdN' (rdN' st 12) (belowOf (rdN st 12) - 1))
  have B5 := Lib.hid (((B4.out.far (q := ⟨w1.heap.size, 2, none⟩) (by simp; omega) (.int .i64 (rdVal (rdN' (rdN' st 12) (belowOf (rdN st 12) - 1))).kind)).far (q := ⟨w1.heap.size, 3, none⟩) (by simp; omega) (.int .i64 (rdVal (rdN' (rdN' st 12) (belowOf (rdN st 12) - 1))).n)).far (q := ⟨w1.heap.size, 4, none⟩) (by simp; omega) (.string (str (rdVal (rdN' (rdN' st 12) (belowOf (rdN st 12) - 1))).s)))
  have C5 := Lib.hid ((((C4.out.store 2 (.int .i64 (rdVal (rdN' (rdN' st 12) (belowOf (rdN st 12) - 1))).kind)).store 3 (.int .i64 (rdVal (rdN' (rdN' st 12) (belowOf (rdN st 12) - 1))).n)).store 4 (.string (str (rdVal (rdN' (rdN' st 12) (belowOf (rdN st 12) - 1))).s))) : Blk (((w4.setCell ⟨w1.heap.size, 2, none⟩ (.int .i64 (rdVal (rdN' (rdN' st 12) (belowOf (rdN st 12) - 1))).kind)).setCell ⟨w1.heap.size, 3, none⟩ (.int .i64 (rdVal (rdN' (rdN' st 12) (belowOf (rdN st 12) - 1))).n)).setCell ⟨w1.heap.size, 4, none⟩ (.string (str (rdVal (rdN' (rdN' st 12) (belowOf (rdN st 12) - 1))).s))) w1.heap.size #[.int .i64 (rdN st 12), (.int .i64 (rdN (rdN' st 12) (belowOf (rdN st 12) - 1))), .int .i64 (rdVal (rdN' (rdN' st 12) (belowOf (rdN st 12) - 1))).kind, .int .i64 (rdVal (rdN' (rdN' st 12) (belowOf (rdN st 12) - 1))).n, .string (str (rdVal (rdN' (rdN' st 12) (belowOf (rdN st 12) - 1))).s)])
  go_wp2_with (with_reducible refine stop_load 96 (.tmp 3) rfl rfl ?_)
  refine Stop.mk (wpList_loadB rfl _ (.tmp 3) rfl _ rfl _ C5.out strN rfl ?_)
  go_wp2_with (with_reducible refine stS 96 (.tmp 2) (.tmp 56) rfl rfl ?_)
  refine Stop.mk (wsB rfl _ (.tmp 2) (.tmp 56) rfl _ _ rfl rfl _ B5.out strN rfl rfl (by simp [Value.oneCell']) ?_)
  intro w9 B9 k9
  have Q9 := Lib.hid B9
  have hb9 : Below w.heap.size _ w9 := k9.oneB (by first | omega | (simp [World.setCell]; omega)) (Nat.le_refl _)
  clear B9 k9
  go_wp2_with (fail)
  exact bodyPost_ret (results_B rfl rfl Q9.out strN rfl) rfl ⟨rfl, (hr4).up (B := w.heap.size) (by repeat (first | exact Below.refl _ _ | refine Below.drew ?_ | refine Below.alloc ?_ (by first | omega | (simp; done) | (simp; omega)) _ | refine Below.setCell ?_ (by first | omega | (simp; done) | (simp; omega)) _ | refine Below.trans ?_ (Below.mono (by assumption) (by first | omega | (simp; done) | (simp; omega))))) hlt, (by repeat (first | exact Kept.refl _ _ _ | refine Kept.drew ?_ | refine Kept.alloc ?_ (by first | omega | (simp; done) | (simp; omega)) _ | refine Kept.setCell ?_ (by first | (right; rfl) | (left; first | omega | (simp; done) | (simp; omega))) _ | refine Kept.then_kept ?_ (by assumption) (by first | omega | (simp; done) | (simp; omega)) | refine Kept.then_below ?_ (by assumption) (by first | omega | (simp; done) | (simp; omega)) | refine Kept.low ?_ (by assumption)))⟩
set_option maxHeartbeats 1000000 in
set_option maxRecDepth 4000 in
theorem c_ref16_node_C1 (h : Nat) (st : Rd) (w : World) (r : RdR w h st) (hop : rdN st 12 ≠ 0) (hc : 6 ≤ rdN st 12) (hc2 : rdN st 12 ≤ 9) (he : (rdVal' (rdN' (rdN' st 12) (belowOf (rdN st 12) - 1))).e = 0) (hok : (ndNode st).ok = true) : Calls Tryz.prog 67 #[.pointer (some ⟨h, 0, none⟩)] w (RetR h (ndD st) w (ndNode st).val) := by
  unfold Node.val
  have hlt := r.lt
  have hpl : ∀ g, some h = some g → g < w.heap.size := fun g e => by injection e with e; omega
  have hne0 : h ≠ w.heap.size := by omega
  have hb : ((rdN' st 12).e == 0) = true := by simpa using (rdN_ok hop).2
  have hopb : ((rdN st 12) == 0) = false := by simpa using hop
  have f3 : decide (3 ≤ rdN st 12) = true := by simp; omega
  have f9 : decide (rdN st 12 ≤ 9) = true := by simp; omega
  have f6 : decide (6 ≤ rdN st 12) = true := by simp; omega
  have hnm : named (rdN st 12) = true := by unfold named; simp; omega
  have hvl : valued (rdN st 12) = true := by unfold valued; simp; omega
  have hve : ((rdVal' (rdN' (rdN' st 12) (belowOf (rdN st 12) - 1))).e == 0) = true := by simpa using he
  obtain ⟨hnd, hdd⟩ := nd_C hop hnm hvl
  rw [hok, if_neg (by decide)] at hdd
  rw [hnd] at hok
  rw [hnd, hdd]
  have Hok := Lib.hid hok
  clear hdd hnd hok
  clear hnm hvl hop hc hc2 he
  go_enter Tryz.func67, Tryz.ntmps67
  go_wp2_with (fail)
  refine (c_ref01_RNum h st 12 _ (r.below ((Below.refl _ _).alloc (Nat.le_refl _) _))).mono ?_
  rintro e w1 ⟨rfl, hr1, hk1⟩
  have hz1 := hk1.size
  simp only [World.size_alloc] at hz1
  have hne1 : h ≠ w1.heap.size := by omega
  have hne3 : w.heap.size ≠ w1.heap.size := by omega
  have hh1 : h < w1.heap.size := by omega
  have B0 := Lib.hid ((Blk.new w 96 #[.int .i64 0, .int .i64 0, .int .i64 0, .int .i64 0, .string (str [])]).kept hk1 (by simp) (ne_of_lt hpl (Nat.le_refl _)))
  have c1 : w1.cell? ⟨h, 1, none⟩ = some (.int .i64 (rdN' st 12).e) := hr1.1.cell rfl
  have hbd := belowOf_bd (rdN st 12)
  go_wp2_with (fail)
  refine (c_ref16_most _ _).mono ?_
  rintro e w2 ⟨rfl, hb2⟩
  have hz2 := hb2.size
  simp only [World.size_alloc] at hz2
  have hr2 := (hr1.below ((Below.refl _ _).alloc (Nat.le_refl _) _)).below hb2
  go_wp2_with (fail)
  refine (c_ref01_RNum h (rdN' st 12) (belowOf (rdN st 12) - 1) _ hr2).mono ?_
  rintro e w3 ⟨rfl, hr3, hk3⟩
  have hz3 := hk3.size
  have B3 := Lib.hid (((B0.out.below ((Below.refl _ _).alloc (Nat.le_refl _) _) B0.out.lt).below hb2 (by simp; omega)).kept hk3 (by omega) (ne_of_lt hpl (Nat.le_refl _)))
  have C3 := Lib.hid (((Blk.new w1 96 #[.int .i64 (rdN st 12), (.int .i64 0), (.int .i64 0), (.int .i64 0), (.string (str []))]).below hb2 (by simp)).kept hk3 (by omega) (ne_of_lt hpl (by omega)))
  obtain ⟨b0, b1, b2, b3, b4, bf⟩ := C3.out.five
  have hh3 : h < w3.heap.size := by omega
  have hr3' := hr3.up (B := w.heap.size) (w' := w3.setCell ⟨w1.heap.size, 1, none⟩ (.int .i64 (rdN (rdN' st 12) (belowOf (rdN st 12) - 1)))) (by repeat (first | exact Below.refl _ _ | refine Below.drew ?_ | refine Below.alloc ?_ (by first | omega | (simp; done) | (simp; omega)) _ | refine Below.setCell ?_ (by first | omega | (simp; done) | (simp; omega)) _ | refine Below.trans ?_ (Below.mono (by assumption) (by first | omega | (simp; done) | (simp; omega))))) hlt
  go_wp2_with (fail)
  refine (c_ref08_Value h _ _ hr3').mono ?_
  rintro e w4 ⟨rfl, hr4, hk4⟩
  have hz4' := hk4.size
  have hz4 : w3.heap.size ≤ w4.heap.size := by simpa [World.setCell] using hz4'
  clear hz4' b0 b1 b2 b3 b4 bf
  have B4 := Lib.hid ((B3.out.far (q := ⟨w1.heap.size, 1, none⟩) (by simp; omega) (.int .i64 (rdN (rdN' st 12) (belowOf (rdN st 12) - 1)))).kept hk4 (by simp [World.setCell]; omega) (ne_of_lt hpl (Nat.le_refl _)))
  have C4 := Lib.hid (((C3.out.store 1 (.int .i64 (rdN (rdN' st 12) (belowOf (rdN st 12) - 1)))).kept hk4 (by simp [World.setCell]; omega) (ne_of_lt hpl (by omega)) : Blk w4 w1.heap.size #[.int .i64 (rdN st 12), (.int .i64 (rdN (rdN' st 12) (belowOf (rdN st 12) - 1))), (.int .i64 0), (.int .i64 0), (.string (str []))]))
  obtain ⟨b0, b1, b2, b3, b4, bf⟩ := C4.out.five
  have hh4 : h < w4.heap.size := by omega
  have d1 : w4.cell? ⟨h, 1, none⟩ = some (.int .i64 (rdVal' (rdN' (rdN' st 12) (belowOf (rdN st 12) - 1))).e) := hr4.1.cell rfl
  have hlen4 := rdVal_len (rdN' (rdN' st 12) (belowOf (rdN st 12) - 1))
  go_wp2_with (fail)
  refine (c_ref10_Node ⟨rdN st 12, rdN (rdN' st 12) (belowOf (rdN st 12) - 1), rdVal (rdN' (rdN' st 12) (belowOf (rdN st 12) - 1))⟩ _ (by simp only; omega)).mono ?_
  rintro e w5 ⟨rfl, hb5⟩
  rw [Hok.out]
  have hz5' := hb5.size
  have hz5 : w4.heap.size ≤ w5.heap.size := by simpa [World.setCell] using hz5'
  clear hz5' b0 b1 b2 b3 b4 bf
  have B5 := Lib.hid ((((B4.out.far (q := ⟨w1.heap.size, 2, none⟩) (by simp; omega) (.int .i64 (rdVal (rdN' (rdN' st 12) (belowOf (rdN st 12) - 1))).kind)).far (q := ⟨w1.heap.size, 3, none⟩) (by simp; omega) (.int .i64 (rdVal (rdN' (rdN' st 12) (belowOf (rdN st 12) - 1))).n)).far (q := ⟨w1.heap.size, 4, none⟩) (by simp; omega) (.string (str (rdVal (rdN' (rdN' st 12) (belowOf (rdN st 12) - 1))).s))).below hb5 (by simp [World.setCell]; omega))
  have C5 := Lib.hid (((((C4.out.store 2 (.int .i64 (rdVal (rdN' (rdN' st 12) (belowOf (rdN st 12) - 1))).kind)).store 3 (.int .i64 (rdVal (rdN' (rdN' st 12) (belowOf (rdN st 12) - 1))).n)).store 4 (.string (str (rdVal (rdN' (rdN' st 12) (belowOf (rdN st 12) - 1))).s))).below hb5 (by simp [World.setCell]; omega)) : Blk w5 w1.heap.size #[.int .i64 (rdN st 12), (.int .i64 (rdN (rdN' st 12) (belowOf (rdN st 12) - 1))), .int .i64 (rdVal (rdN' (rdN' st 12) (belowOf (rdN st 12) - 1))).kind, .int .i64 (rdVal (rdN' (rdN' st 12) (belowOf (rdN st 12) - 1))).n, .string (str (rdVal (rdN' (rdN' st 12) (belowOf (rdN st 12) - 1))).s)])
  obtain ⟨b0, b1, b2, b3, b4, bf⟩ := C5.out.five
  have hh5 : h < w5.heap.size := by omega
  have hr5 := (hr4.up (B := w.heap.size) (w' := ((w4.setCell ⟨w1.heap.size, 2, none⟩ (.int .i64 (rdVal (rdN' (rdN' st 12) (belowOf (rdN st 12) - 1))).kind)).setCell ⟨w1.heap.size, 3, none⟩ (.int .i64 (rdVal (rdN' (rdN' st 12) (belowOf (rdN st 12) - 1))).n)).setCell ⟨w1.heap.size, 4, none⟩ (.string (str (rdVal (rdN' (rdN' st 12) (belowOf (rdN st 12) - 1))).s))) (by repeat (first | exact Below.refl _ _ | refine Below.drew ?_ | refine Below.alloc ?_ (by first | omega | (simp; done) | (simp; omega)) _ | refine Below.setCell ?_ (by first | omega | (simp; done) | (simp; omega)) _ | refine Below.trans ?_ (Below.mono (by assumption) (by first | omega | (simp; done) | (simp; omega))))) hlt).below hb5
  go_wp2_with (with_reducible refine stop_load 96 (.tmp 3) rfl rfl ?_)
  refine Stop.mk (wpList_loadB rfl _ (.tmp 3) rfl _ rfl _ C5.out strN rfl ?_)
  go_wp2_with (with_reducible refine stS 96 (.tmp 2) (.tmp 56) rfl rfl ?_)
  refine Stop.mk (wsB rfl _ (.tmp 2) (.tmp 56) rfl _ _ rfl rfl _ B5.out strN rfl rfl (by simp [Value.oneCell']) ?_)
  intro w9 B9 k9
  have Q9 := Lib.hid B9
  have hb9 : Below w.heap.size _ w9 := k9.oneB (by first | omega | (simp [World.setCell]; omega)) (Nat.le_refl _)
  clear B9 k9
  go_wp2_with (fail)
  exact bodyPost_ret (results_B rfl rfl Q9.out strN rfl) rfl ⟨rfl, (hr5).up (B := w.heap.size) (by repeat (first | exact Below.refl _ _ | refine Below.drew ?_ | refine Below.alloc ?_ (by first | omega | (simp; done) | (simp; omega)) _ | refine Below.setCell ?_ (by first | omega | (simp; done) | (simp; omega)) _ | refine Below.trans ?_ (Below.mono (by assumption) (by first | omega | (simp; done) | (simp; omega))))) hlt, (by repeat (first | exact Kept.refl _ _ _ | refine Kept.drew ?_ | refine Kept.alloc ?_ (by first | omega | (simp; done) | (simp; omega)) _ | refine Kept.setCell ?_ (by first | (right; rfl) | (left; first | omega | (simp; done) | (simp; omega))) _ | refine Kept.then_kept ?_ (by assumption) (by first | omega | (simp; done) | (simp; omega)) | refine Kept.then_below ?_ (by assumption) (by first | omega | (simp; done) | (simp; omega)) | refine Kept.low ?_ (by assumption)))⟩
set_option maxHeartbeats 1000000 in
set_option maxRecDepth 4000 in
theorem c_ref16_node_C2 (h : Nat) (st : Rd) (w : World) (r : RdR w h st) (hop : rdN st 12 ≠ 0) (hc : 6 ≤ rdN st 12) (hc2 : rdN st 12 ≤ 9) (he : (rdVal' (rdN' (rdN' st 12) (belowOf (rdN st 12) - 1))).e = 0) (hok : (ndNode st).ok = false) : Calls Tryz.prog 67 #[.pointer (some ⟨h, 0, none⟩)] w (RetR h (ndD st) w (ndNode st).val) := by
  unfold Node.val
  have hlt := r.lt
  have hpl : ∀ g, some h = some g → g < w.heap.size := fun g e => by injection e with e; omega
  have hne0 : h ≠ w.heap.size := by omega
  have hb : ((rdN' st 12).e == 0) = true := by simpa using (rdN_ok hop).2
  have hopb : ((rdN st 12) == 0) = false := by simpa using hop
  have f3 : decide (3 ≤ rdN st 12) = true := by simp; omega
  have f9 : decide (rdN st 12 ≤ 9) = true := by simp; omega
  have f6 : decide (6 ≤ rdN st 12) = true := by simp; omega
  have hnm : named (rdN st 12) = true := by unfold named; simp; omega
  have hvl : valued (rdN st 12) = true := by unfold valued; simp; omega
  have hve : ((rdVal' (rdN' (rdN' st 12) (belowOf (rdN st 12) - 1))).e == 0) = true := by simpa using he
  obtain ⟨hnd, hdd⟩ := nd_C hop hnm hvl
  rw [hok, if_pos rfl] at hdd
  rw [hnd] at hok
  rw [hnd, hdd]
  have Hok := Lib.hid hok
  clear hdd hnd hok
  clear hnm hvl hop hc hc2 he
  go_enter Tryz.func67, Tryz.ntmps67
  go_wp2_with (fail)
  refine (c_ref01_RNum h st 12 _ (r.below ((Below.refl _ _).alloc (Nat.le_refl _) _))).mono ?_
  rintro e w1 ⟨rfl, hr1, hk1⟩
  have hz1 := hk1.size
  simp only [World.size_alloc] at hz1
  have hne1 : h ≠ w1.heap.size := by omega
  have hne3 : w.heap.size ≠ w1.heap.size := by omega
  have hh1 : h < w1.heap.size := by omega
  have B0 := Lib.hid ((Blk.new w 96 #[.int .i64 0, .int .i64 0, .int .i64 0, .int .i64 0, .string (str [])]).kept hk1 (by simp) (ne_of_lt hpl (Nat.le_refl _)))
  have c1 : w1.cell? ⟨h, 1, none⟩ = some (.int .i64 (rdN' st 12).e) := hr1.1.cell rfl
  have hbd := belowOf_bd (rdN st 12)
  go_wp2_with (fail)
  refine (c_ref16_most _ _).mono ?_
  rintro e w2 ⟨rfl, hb2⟩
  have hz2 := hb2.size
  simp only [World.size_alloc] at hz2
  have hr2 := (hr1.below ((Below.refl _ _).alloc (Nat.le_refl _) _)).below hb2
  go_wp2_with (fail)
  refine (c_ref01_RNum h (rdN' st 12) (belowOf (rdN st 12) - 1) _ hr2).mono ?_
  rintro e w3 ⟨rfl, hr3, hk3⟩
  have hz3 := hk3.size
  have B3 := Lib.hid (((B0.out.below ((Below.refl _ _).alloc (Nat.le_refl _) _) B0.out.lt).below hb2 (by simp; omega)).kept hk3 (by omega) (ne_of_lt hpl (Nat.le_refl _)))
  have C3 := Lib.hid (((Blk.new w1 96 #[.int .i64 (rdN st 12), (.int .i64 0), (.int .i64 0), (.int .i64 0), (.string (str []))]).below hb2 (by simp)).kept hk3 (by omega) (ne_of_lt hpl (by omega)))
  obtain ⟨b0, b1, b2, b3, b4, bf⟩ := C3.out.five
  have hh3 : h < w3.heap.size := by omega
  have hr3' := hr3.up (B := w.heap.size) (w' := w3.setCell ⟨w1.heap.size, 1, none⟩ (.int .i64 (rdN (rdN' st 12) (belowOf (rdN st 12) - 1)))) (by repeat (first | exact Below.refl _ _ | refine Below.drew ?_ | refine Below.alloc ?_ (by first | omega | (simp; done) | (simp; omega)) _ | refine Below.setCell ?_ (by first | omega | (simp; done) | (simp; omega)) _ | refine Below.trans ?_ (Below.mono (by assumption) (by first | omega | (simp; done) | (simp; omega))))) hlt
  go_wp2_with (fail)
  refine (c_ref08_Value h _ _ hr3').mono ?_
  rintro e w4 ⟨rfl, hr4, hk4⟩
  have hz4' := hk4.size
  have hz4 : w3.heap.size ≤ w4.heap.size := by simpa [World.setCell] using hz4'
  clear hz4' b0 b1 b2 b3 b4 bf
  have B4 := Lib.hid ((B3.out.far (q := ⟨w1.heap.size, 1, none⟩) (by simp; omega) (.int .i64 (rdN (rdN' st 12) (belowOf (rdN st 12) - 1)))).kept hk4 (by simp [World.setCell]; omega) (ne_of_lt hpl (Nat.le_refl _)))
  have C4 := Lib.hid (((C3.out.store 1 (.int .i64 (rdN (rdN' st 12) (belowOf (rdN st 12) - 1)))).kept hk4 (by simp [World.setCell]; omega) (ne_of_lt hpl (by omega)) : Blk w4 w1.heap.size #[.int .i64 (rdN st 12), (.int .i64 (rdN (rdN' st 12) (belowOf (rdN st 12) - 1))), (.int .i64 0), (.int .i64 0), (.string (str []))]))
  obtain ⟨b0, b1, b2, b3, b4, bf⟩ := C4.out.five
  have hh4 : h < w4.heap.size := by omega
  have d1 : w4.cell? ⟨h, 1, none⟩ = some (.int .i64 (rdVal' (rdN' (rdN' st 12) (belowOf (rdN st 12) - 1))).e) := hr4.1.cell rfl
  have hlen4 := rdVal_len (rdN' (rdN' st 12) (belowOf (rdN st 12) - 1))
  go_wp2_with (fail)
  refine (c_ref10_Node ⟨rdN st 12, rdN (rdN' st 12) (belowOf (rdN st 12) - 1), rdVal (rdN' (rdN' st 12) (belowOf (rdN st 12) - 1))⟩ _ (by simp only; omega)).mono ?_
  rintro e w5 ⟨rfl, hb5⟩
  rw [Hok.out]
  have hz5' := hb5.size
  have hz5 : w4.heap.size ≤ w5.heap.size := by simpa [World.setCell] using hz5'
  clear hz5' b0 b1 b2 b3 b4 bf
  have B5 := Lib.hid ((((B4.out.far (q := ⟨w1.heap.size, 2, none⟩) (by simp; omega) (.int .i64 (rdVal (rdN' (rdN' st 12) (belowOf (rdN st 12) - 1))).kind)).far (q := ⟨w1.heap.size, 3, none⟩) (by simp; omega) (.int .i64 (rdVal (rdN' (rdN' st 12) (belowOf (rdN st 12) - 1))).n)).far (q := ⟨w1.heap.size, 4, none⟩) (by simp; omega) (.string (str (rdVal (rdN' (rdN' st 12) (belowOf (rdN st 12) - 1))).s))).below hb5 (by simp [World.setCell]; omega))
  have C5 := Lib.hid (((((C4.out.store 2 (.int .i64 (rdVal (rdN' (rdN' st 12) (belowOf (rdN st 12) - 1))).kind)).store 3 (.int .i64 (rdVal (rdN' (rdN' st 12) (belowOf (rdN st 12) - 1))).n)).store 4 (.string (str (rdVal (rdN' (rdN' st 12) (belowOf (rdN st 12) - 1))).s))).below hb5 (by simp [World.setCell]; omega)) : Blk w5 w1.heap.size #[.int .i64 (rdN st 12), (.int .i64 (rdN (rdN' st 12) (belowOf (rdN st 12) - 1))), .int .i64 (rdVal (rdN' (rdN' st 12) (belowOf (rdN st 12) - 1))).kind, .int .i64 (rdVal (rdN' (rdN' st 12) (belowOf (rdN st 12) - 1))).n, .string (str (rdVal (rdN' (rdN' st 12) (belowOf (rdN st 12) - 1))).s)])
  obtain ⟨b0, b1, b2, b3, b4, bf⟩ := C5.out.five
  have hh5 : h < w5.heap.size := by omega
  have hr5 := (hr4.up (B := w.heap.size) (w' := ((w4.setCell ⟨w1.heap.size, 2, none⟩ (.int .i64 (rdVal (rdN' (rdN' st 12) (belowOf (rdN st 12) - 1))).kind)).setCell ⟨w1.heap.size, 3, none⟩ (.int .i64 (rdVal (rdN' (rdN' st 12) (belowOf (rdN st 12) - 1))).n)).setCell ⟨w1.heap.size, 4, none⟩ (.string (str (rdVal (rdN' (rdN' st 12) (belowOf (rdN st 12) - 1))).s))) (by repeat (first | exact Below.refl _ _ | refine Below.drew ?_ | refine Below.alloc ?_ (by first | omega | (simp; done) | (simp; omega)) _ | refine Below.setCell ?_ (by first | omega | (simp; done) | (simp; omega)) _ | refine Below.trans ?_ (Below.mono (by assumption) (by first | omega | (simp; done) | (simp; omega))))) hlt).below hb5
  go_wp2_with (fail)
  refine (c_ref01_Fail h _ 3 _ hr5).mono ?_
  rintro e w6 ⟨rfl, hr6, hk6⟩
  have hz6 := hk6.size
  clear b0 b1 b2 b3 b4 bf
  have B6 := Lib.hid (B5.out.kept hk6 (by omega) (ne_of_lt hpl (Nat.le_refl _)))
  have C6 := Lib.hid (C5.out.kept hk6 (by omega) (ne_of_lt hpl (by omega)))
  go_wp2_with (with_reducible refine stop_load 96 (.tmp 3) rfl rfl ?_)
  refine Stop.mk (wpList_loadB rfl _ (.tmp 3) rfl _ rfl _ C6.out strN rfl ?_)
  go_wp2_with (with_reducible refine stS 96 (.tmp 2) (.tmp 56) rfl rfl ?_)
  refine Stop.mk (wsB rfl _ (.tmp 2) (.tmp 56) rfl _ _ rfl rfl _ B6.out strN rfl rfl (by simp [Value.oneCell']) ?_)
  intro w9 B9 k9
  have Q9 := Lib.hid B9
  have hb9 : Below w.heap.size _ w9 := k9.oneB (by first | omega | (simp [World.setCell]; omega)) (Nat.le_refl _)
  clear B9 k9
  go_wp2_with (fail)
  exact bodyPost_ret (results_B rfl rfl Q9.out strN rfl) rfl ⟨rfl, (hr6).up (B := w.heap.size) (by repeat (first | exact Below.refl _ _ | refine Below.drew ?_ | refine Below.alloc ?_ (by first | omega | (simp; done) | (simp; omega)) _ | refine Below.setCell ?_ (by first | omega | (simp; done) | (simp; omega)) _ | refine Below.trans ?_ (Below.mono (by assumption) (by first | omega | (simp; done) | (simp; omega))))) hlt, (by repeat (first | exact Kept.refl _ _ _ | refine Kept.drew ?_ | refine Kept.alloc ?_ (by first | omega | (simp; done) | (simp; omega)) _ | refine Kept.setCell ?_ (by first | (right; rfl) | (left; first | omega | (simp; done) | (simp; omega))) _ | refine Kept.then_kept ?_ (by assumption) (by first | omega | (simp; done) | (simp; omega)) | refine Kept.then_below ?_ (by assumption) (by first | omega | (simp; done) | (simp; omega)) | refine Kept.low ?_ (by assumption)))⟩
theorem c_ref16_node (h : Nat) (st : Rd) (w : World) (r : RdR w h st) : Calls Tryz.prog 67 #[.pointer (some ⟨h, 0, none⟩)] w (RetR h (ndD st) w (ndNode st).val) := by
  by_cases hop : rdN st 12 = 0
  · by_cases he : (rdN' st 12).e = 0
    · exact c_ref16_node_00 h st w r hop he
    · exact c_ref16_node_01 h st w r hop he
  · by_cases h1 : rdN st 12 < 3
    · exact c_ref16_node_A1 h st w r hop h1
    · by_cases h2 : 9 < rdN st 12
      · exact c_ref16_node_A2 h st w r hop h2
      · by_cases h3 : rdN st 12 < 6
        · exact c_ref16_node_B h st w r hop (by omega) h3
        · by_cases he : (rdVal' (rdN' (rdN' st 12) (belowOf (rdN st 12) - 1))).e = 0
          · cases hok : (ndNode st).ok
            · exact c_ref16_node_C2 h st w r hop (by omega) (by omega) he hok
            · exact c_ref16_node_C1 h st w r hop (by omega) (by omega) he hok
          · exact c_ref16_node_C0 h st w r hop (by omega) (by omega) he
set_option maxHeartbeats 1000000 in
set_option maxRecDepth 4000 in
theorem c_ref16_Read_00 (h : Nat) (st : Rd) (w : World) (r : RdR w h st) (hop : rdN st 31 = 0) (he : (rdN' st 31).e = 0) : Calls Tryz.prog 36 #[.pointer (some ⟨h, 0, none⟩)] w (RetRS h (rdPred' st) 5 Node.cells 96 w (rdPred st)) := by
  have hlt := r.lt
  have hpl : ∀ g, some h = some g → g < w.heap.size := fun g e => by injection e with e; omega
  have hbad : (pdS st).e ≠ 0 := by unfold pdS pdA; rw [if_pos hop, hop]; exact rdF_bad _ (by decide)
  have hS : pdS st = rdF (rdN' st 31) 3 := by unfold pdS pdA; rw [if_pos hop, hop]; rfl
  rw [(rdPred_bad hbad).1, (rdPred_bad hbad).2, hS]
  have hb : ((rdN' st 31).e == 0) = true := by simpa using he
  have hb2 : ((rdF (rdN' st 31) 3).e == 0) = false := by rw [← hS]; simpa using hbad
  have hb3 : ((rdF (rdN' st 31) 3).e != 0) = true := by rw [← hS]; simpa using hbad
  have Hop := Lib.hid hop
  clear hop he hbad hS
  go_enter Tryz.func36, Tryz.ntmps36
  go_wp2_with (fail)
  refine (c_ref01_RNum h st 31 _ r).mono ?_
  rintro e w1 ⟨rfl, hr1, hk1⟩
  rw [Hop.out]
  have hz1 := hk1.size
  have hh1 : h < w1.heap.size := by omega
  have c1 : w1.cell? ⟨h, 1, none⟩ = some (.int .i64 (rdN' st 31).e) := hr1.1.cell rfl
  go_wp2_with (fail)
  refine (c_ref01_Fail h _ 3 _ hr1).mono ?_
  rintro e w2 ⟨rfl, hr2, hk2⟩
  have hz2 := hk2.size
  have hh2 : h < w2.heap.size := by omega
  have c2 : w2.cell? ⟨h, 1, none⟩ = some (.int .i64 (rdF (rdN' st 31) 3).e) := hr2.1.cell rfl
  go_wp2_with (fail)
  go_loopw [5] (fun i wr => i = .int .i64 0 ∧ wr = w2.alloc (.cells #[] 96)) (fun _ _ => 0)
  case atStart => exact ⟨rfl, rfl⟩
  case round =>
    obtain ⟨rfl, rfl⟩ := hrel
    go_wp2_with (fail)
    go_ret
    exact ⟨_, rfl, World.ownsRow_nil _ _ _ _, hr2.below ((Below.refl _ _).alloc (Nat.le_refl _) _), (by repeat (first | exact Kept.refl _ _ _ | refine Kept.drew ?_ | refine Kept.alloc ?_ (by first | omega | (simp; done) | (simp; omega)) _ | refine Kept.setCell ?_ (by first | (right; rfl) | (left; first | omega | (simp; done) | (simp; omega))) _ | refine Kept.then_kept ?_ (by assumption) (by first | omega | (simp; done) | (simp; omega)) | refine Kept.then_below ?_ (by assumption) (by first | omega | (simp; done) | (simp; omega)) | refine Kept.low ?_ (by assumption)))⟩
set_option maxHeartbeats 1000000 in
set_option maxRecDepth 4000 in
theorem c_ref16_Read_01 (h : Nat) (st : Rd) (w : World) (r : RdR w h st) (hop : rdN st 31 = 0) (he : (rdN' st 31).e ≠ 0) : Calls Tryz.prog 36 #[.pointer (some ⟨h, 0, none⟩)] w (RetRS h (rdPred' st) 5 Node.cells 96 w (rdPred st)) := by
  have hlt := r.lt
  have hpl : ∀ g, some h = some g → g < w.heap.size := fun g e => by injection e with e; omega
  have hbad : (pdS st).e ≠ 0 := by unfold pdS pdA; rw [if_pos hop, hop]; exact rdF_bad _ (by decide)
  have hS : pdS st = rdF (rdN' st 31) 3 := by unfold pdS pdA; rw [if_pos hop, hop]; rfl
  rw [(rdPred_bad hbad).1, (rdPred_bad hbad).2, hS]
  have hb : ((rdN' st 31).e == 0) = false := by simpa using he
  rw [rdF_err he]
  have hb3 : ((rdN' st 31).e != 0) = true := by simpa using he
  have Hop := Lib.hid hop
  clear hop he hbad hS
  go_enter Tryz.func36, Tryz.ntmps36
  go_wp2_with (fail)
  refine (c_ref01_RNum h st 31 _ r).mono ?_
  rintro e w1 ⟨rfl, hr1, hk1⟩
  rw [Hop.out]
  have hz1 := hk1.size
  have hh1 : h < w1.heap.size := by omega
  have c1 : w1.cell? ⟨h, 1, none⟩ = some (.int .i64 (rdN' st 31).e) := hr1.1.cell rfl
  go_wp2_with (fail)
  go_loopw [5] (fun i wr => i = .int .i64 0 ∧ wr = w1.alloc (.cells #[] 96)) (fun _ _ => 0)
  case atStart => exact ⟨rfl, rfl⟩
  case round =>
    obtain ⟨rfl, rfl⟩ := hrel
    go_wp2_with (fail)
    go_ret
    exact ⟨_, rfl, World.ownsRow_nil _ _ _ _, hr1.below ((Below.refl _ _).alloc (Nat.le_refl _) _), (by repeat (first | exact Kept.refl _ _ _ | refine Kept.drew ?_ | refine Kept.alloc ?_ (by first | omega | (simp; done) | (simp; omega)) _ | refine Kept.setCell ?_ (by first | (right; rfl) | (left; first | omega | (simp; done) | (simp; omega))) _ | refine Kept.then_kept ?_ (by assumption) (by first | omega | (simp; done) | (simp; omega)) | refine Kept.then_below ?_ (by assumption) (by first | omega | (simp; done) | (simp; omega)) | refine Kept.low ?_ (by assumption)))⟩
set_option maxHeartbeats 1000000 in
set_option maxRecDepth 4000 in
theorem c_ref16_Read_main (h : Nat) (st : Rd) (w : World) (r : RdR w h st) (hop : rdN st 31 ≠ 0) : Calls Tryz.prog 36 #[.pointer (some ⟨h, 0, none⟩)] w (RetRS h (rdPred' st) 5 Node.cells 96 w (rdPred st)) := by
  have hlt := r.lt
  have hpl : ∀ g, some h = some g → g < w.heap.size := fun g e => by injection e with e; omega
  have EN := elemN
  have hm := rdN_bd st 31
  have hm0 := rdN_ok hop
  obtain ⟨m, hmm⟩ : ∃ m : Nat, rdN st 31 = (m : Int) := ⟨(rdN st 31).toNat, by omega⟩
  have hm31 : m ≤ 31 := by omega
  have hA : pdA st = rdN' st 31 := by unfold pdA; rw [if_neg hop]
  have HS0 : Hid (pdS st = rdNodes' m (rdN' st 31)) := by show _ = _; unfold pdS; rw [hA, hmm]; rfl
  have HL0 : Hid (pdL st = rdNodes m (rdN' st 31)) := by show _ = _; unfold pdL; rw [hA, hmm]; rfl
  have hmne : ((m : Int) == 0) = false := by rw [← hmm]; simpa using hop
  have hb : ((rdN' st 31).e == 0) = true := by simpa using hm0.2
  have Hmm := Lib.hid hmm
  clear hop hm0 hmm hA hm
  go_enter Tryz.func36, Tryz.ntmps36
  go_wp2_with (fail)
  refine (c_ref01_RNum h st 31 _ r).mono ?_
  rintro e w1 ⟨rfl, hr1, hk1⟩
  rw [Hmm.out]
  have hz1 := hk1.size
  have hh1 : h < w1.heap.size := by omega
  have c1 : w1.cell? ⟨h, 1, none⟩ = some (.int .i64 (rdN' st 31).e) := hr1.1.cell rfl
  go_wp2_with (fail)
  go_loopw [4, 5] (fun v i wr => ∃ (k : Nat) (s : Rd) (acc : List Node), k ≤ m ∧ i = .int .i64 k ∧ acc.length = k ∧ Hid (wr.ownsRow w.heap.size 96 5 v acc.length (acc.flatMap Node.cells)) ∧ RdR wr h s ∧
      Hid (pdS st = rdNodes' (m - k) s) ∧ Hid ((pdS st).e = 0 → pdL st = acc ++ rdNodes (m - k) s) ∧ Kept (some h) w.heap.size w wr)
    (fun _ i _ => m - (intOf i).toNat)
  case atStart => exact ⟨0, rdN' st 31, [], by omega, rfl, rfl, World.ownsRow_lit w1 #[] 0 (by omega) (by unfold maxLen; omega) (by simp), hr1.below ((Below.refl _ _).alloc (Nat.le_refl _) _), HS0.out, fun _ => HL0.out, (by repeat (first | exact Kept.refl _ _ _ | refine Kept.drew ?_ | refine Kept.alloc ?_ (by first | omega | (simp; done) | (simp; omega)) _ | refine Kept.setCell ?_ (by first | (right; rfl) | (left; first | omega | (simp; done) | (simp; omega))) _ | refine Kept.then_kept ?_ (by assumption) (by first | omega | (simp; done) | (simp; omega)) | refine Kept.then_below ?_ (by assumption) (by first | omega | (simp; done) | (simp; omega)) | refine Kept.low ?_ (by assumption)))⟩
  case round =>
    obtain ⟨k, s, acc, hkm, rfl, hacc, O, hr, HS, HL, hk⟩ := hrel
    have hz := hk.size
    have hHacc := Lib.hid hacc
    have hhr : h < wr.heap.size := by omega
    have c2 : wr.cell? ⟨h, 1, none⟩ = some (.int .i64 s.e) := hr.1.cell rfl
    clear hacc hr1 hk1 HS0 HL0 r c1
    by_cases hlk : k < m
    case neg =>
      have hS : pdS st = s := by have := HS.out; rw [show m - k = 0 by omega] at this; exact this
      have hd : decide (k < m) = false := by simp; omega
      by_cases he : s.e = 0
      case neg =>
        have hbad : (pdS st).e ≠ 0 := by rw [hS]; exact he
        have hb2 : (s.e != 0) = true := by simpa using he
        have HR1 := Lib.hid (rdPred_bad hbad).1
        have HR2 := Lib.hid ((rdPred_bad hbad).2.trans hS)
        clear he hbad hS hlk
        go_wp2_with (fail)
        go_ret
        rw [HR1.out, HR2.out]
        exact ⟨_, rfl, World.ownsRow_nil _ _ _ _, hr, hk⟩
      have hSe : (pdS st).e = 0 := by rw [hS]; exact he
      have hLe : pdL st = acc := by have := HL.out hSe; rw [show m - k = 0 by omega] at this; simpa [rdNodes] using this
      have hb2 : (s.e != 0) = false := by simpa using he
      have hl31 := pdL_len st
      have htx : ∀ x ∈ acc, x.v.s.length ≤ 9223372036854775807 := fun x hx => by rw [← hLe] at hx; have := rdNodes_texts _ _ x hx; omega
      have Htx := Lib.hid htx
      rw [hLe] at hl31
      have hcc := check_cases hl31
      obtain ⟨A4, c4, rfl, in4⟩ := In.of_own Node.cells_len O.out (by omega)
      have Hin := Lib.hid in4
      rcases hcc with hc | hc | hc
      · have HR1 := Lib.hid (rdPred_ok hSe (by rw [hLe]; exact hc)).1
        have HR2 := Lib.hid ((rdPred_ok hSe (by rw [hLe]; exact hc)).2.trans hS)
        have HS1 := Lib.hid hS
        have HLe := Lib.hid hLe
        have Hc := Lib.hid hc
        clear hc he hSe hS hLe htx in4 hlk
        go_wp2_with (fail)
        refine (c_ref10_Check acc A4 c4 _ Hin.out Htx.out).mono ?_
        rintro e w4 ⟨rfl, hb4⟩
        rw [Hc.out]
        have hz4 := hb4.size
        go_wp2_with (fail)
        go_ret
        rw [HR1.out, HR2.out]
        exact ⟨_, rfl, by rw [HLe.out]; exact own_below O.out hb4, hr.below hb4, (by repeat (first | exact Kept.refl _ _ _ | refine Kept.drew ?_ | refine Kept.alloc ?_ (by first | omega | (simp; done) | (simp; omega)) _ | refine Kept.setCell ?_ (by first | (right; rfl) | (left; first | omega | (simp; done) | (simp; omega))) _ | refine Kept.then_kept ?_ (by assumption) (by first | omega | (simp; done) | (simp; omega)) | refine Kept.then_below ?_ (by assumption) (by first | omega | (simp; done) | (simp; omega)) | refine Kept.low ?_ (by assumption)))⟩
      · have HR1 := Lib.hid (rdPred_1 hSe (by rw [hLe]; exact hc)).1
        have HR2 := Lib.hid ((rdPred_1 hSe (by rw [hLe]; exact hc)).2)
        have HS1 := Lib.hid hS
        have HLe := Lib.hid hLe
        have Hc := Lib.hid hc
        clear hc he hSe hS hLe htx in4 hlk
        go_wp2_with (fail)
        refine (c_ref10_Check acc A4 c4 _ Hin.out Htx.out).mono ?_
        rintro e w4 ⟨rfl, hb4⟩
        rw [Hc.out]
        have hz4 := hb4.size
        go_wp2_with (fail)
        refine (c_ref01_Fail h s 3 _ (hr.below hb4)).mono ?_
        rintro e w5 ⟨rfl, hr5, hk5⟩
        have hz5 := hk5.size
        go_wp2_with (fail)
        go_ret
        rw [HR1.out, HR2.out, HS1.out]
        exact ⟨_, rfl, World.ownsRow_nil _ _ _ _, hr5, (by repeat (first | exact Kept.refl _ _ _ | refine Kept.drew ?_ | refine Kept.alloc ?_ (by first | omega | (simp; done) | (simp; omega)) _ | refine Kept.setCell ?_ (by first | (right; rfl) | (left; first | omega | (simp; done) | (simp; omega))) _ | refine Kept.then_kept ?_ (by assumption) (by first | omega | (simp; done) | (simp; omega)) | refine Kept.then_below ?_ (by assumption) (by first | omega | (simp; done) | (simp; omega)) | refine Kept.low ?_ (by assumption)))⟩
      · have HR1 := Lib.hid (rdPred_5 hSe (by rw [hLe]; exact hc)).1
        have HR2 := Lib.hid ((rdPred_5 hSe (by rw [hLe]; exact hc)).2)
        have HS1 := Lib.hid hS
        have HLe := Lib.hid hLe
        have Hc := Lib.hid hc
        clear hc he hSe hS hLe htx in4 hlk
        go_wp2_with (fail)
        refine (c_ref10_Check acc A4 c4 _ Hin.out Htx.out).mono ?_
        rintro e w4 ⟨rfl, hb4⟩
        rw [Hc.out]
        have hz4 := hb4.size
        go_wp2_with (fail)
        refine (c_ref01_Fail h s 5 _ (hr.below hb4)).mono ?_
        rintro e w5 ⟨rfl, hr5, hk5⟩
        have hz5 := hk5.size
        go_wp2_with (fail)
        go_ret
        rw [HR1.out, HR2.out, HS1.out]
        exact ⟨_, rfl, World.ownsRow_nil _ _ _ _, hr5, (by repeat (first | exact Kept.refl _ _ _ | refine Kept.drew ?_ | refine Kept.alloc ?_ (by first | omega | (simp; done) | (simp; omega)) _ | refine Kept.setCell ?_ (by first | (right; rfl) | (left; first | omega | (simp; done) | (simp; omega))) _ | refine Kept.then_kept ?_ (by assumption) (by first | omega | (simp; done) | (simp; omega)) | refine Kept.then_below ?_ (by assumption) (by first | omega | (simp; done) | (simp; omega)) | refine Kept.low ?_ (by assumption)))⟩
    have hd : decide (k < m) = true := by simp; omega
    by_cases he : s.e = 0
    case neg =>
      have hS : pdS st = s := by rw [HS.out, rdNodes'_bad he]
      have hbad : (pdS st).e ≠ 0 := by rw [hS]; exact he
      have hb2 : (s.e != 0) = true := by simpa using he
      have hb3 : (s.e == 0) = false := by simpa using he
      have HR1 := Lib.hid (rdPred_bad hbad).1
      have HR2 := Lib.hid ((rdPred_bad hbad).2.trans hS)
      clear he hbad hS hlk
      go_wp2_with (fail)
      go_ret
      rw [HR1.out, HR2.out]
      exact ⟨_, rfl, World.ownsRow_nil _ _ _ _, hr, hk⟩
    have hHS := HS.out
    have hHL := HL.out
    rw [show m - k = (m - (k + 1)) + 1 by omega, rdNodes'_ok he] at hHS
    rw [show m - k = (m - (k + 1)) + 1 by omega, rdNodes_ok he] at hHL
    have hHL2 : (pdS st).e = 0 → pdL st = (acc ++ [ndNode s]) ++ rdNodes (m - (k + 1)) (ndD s) := fun h => by rw [hHL h]; simp
    have hHS2 := Lib.hid hHS
    have hHL3 := Lib.hid hHL2
    have hb3 : (s.e == 0) = true := by simpa using he
    clear HS HL hHS hHL hHL2 he
    go_wp2_with (fail)
    refine (c_ref16_node h s _ hr).mono ?_
    rintro e w3 ⟨rfl, hr3, hk3⟩
    have hz3 := hk3.size
    have O3 := own_kept O.out hk3 hpl
    have HO3 := Lib.hid O3
    clear O3
    go_wp2_with ((at_builtin; refine Stop.out ?_))
    refine Stop.mk (wpList_app _ rfl (.tmp 33) (.tmp 36) EN rfl w.heap.size _ acc.length (acc.flatMap Node.cells) rfl (HO3.out.alloc _) _ 1 1 (ndNode s).cells rfl (Src.new _ _ _ _ rfl) ?_ (by have := hHacc.out; omega) ?_ ?_)
    · intro u hu; simp only [Node.cells, List.mem_cons, List.not_mem_nil, or_false] at hu; rcases hu with rfl | rfl | rfl | rfl | rfl <;> rfl
    · simp only [World.size_alloc]; omega
    intro v9 w9 own9 g9 b9 _
    have hz9 := b9.size
    simp only [World.size_alloc] at hz9
    have hfin : Hid (acc.flatMap Node.cells ++ (ndNode s).cells = (acc ++ [ndNode s]).flatMap Node.cells ∧ acc.length + 1 = (acc ++ [ndNode s]).length) := by
      show _ ∧ _
      exact ⟨by rw [List.flatMap_append]; simp, by simp⟩
    obtain ⟨e1, e2⟩ := hfin.out
    rw [e1, e2] at own9
    have O9 := Lib.hid own9
    clear own9 g9 e1 e2
    go_wp2_with (fail)
    go_roundw
    case rel => exact ⟨k + 1, ndD s, acc ++ [ndNode s], by omega, by go_num, by have := hHacc.out; simp; omega, O9.out, hr3.up (B := w.heap.size) (by repeat (first | exact Below.refl _ _ | refine Below.drew ?_ | refine Below.alloc ?_ (by first | omega | (simp; done) | (simp; omega)) _ | refine Below.setCell ?_ (by first | omega | (simp; done) | (simp; omega)) _ | refine Below.trans ?_ (Below.mono (by assumption) (by first | omega | (simp; done) | (simp; omega))))) hlt, hHS2.out, hHL3.out, (by repeat (first | exact Kept.refl _ _ _ | refine Kept.drew ?_ | refine Kept.alloc ?_ (by first | omega | (simp; done) | (simp; omega)) _ | refine Kept.setCell ?_ (by first | (right; rfl) | (left; first | omega | (simp; done) | (simp; omega))) _ | refine Kept.then_kept ?_ (by assumption) (by first | omega | (simp; done) | (simp; omega)) | refine Kept.then_below ?_ (by assumption) (by first | omega | (simp; done) | (simp; omega)) | refine Kept.low ?_ (by assumption)))⟩
    case measure => simp [intOf]; omega
theorem c_ref16_Read (h : Nat) (st : Rd) (w : World) (r : RdR w h st) : Calls Tryz.prog 36 #[.pointer (some ⟨h, 0, none⟩)] w (RetRS h (rdPred' st) 5 Node.cells 96 w (rdPred st)) := by
  by_cases hop : rdN st 31 = 0
  · by_cases he : (rdN' st 31).e = 0
    · exact c_ref16_Read_00 h st w r hop he
    · exact c_ref16_Read_01 h st w r hop he
  · exact c_ref16_Read_main h st w r hop
end Go.Proofs.YtiedkcijjfmhaaaGreatDoor
