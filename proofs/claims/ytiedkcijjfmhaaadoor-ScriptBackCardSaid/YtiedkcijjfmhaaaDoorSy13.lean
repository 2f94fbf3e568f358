/-
  The walk of predwire.Read: a filter taken off bytes.
-/
import Derived.Test.YtiedkcijjfmhaaaDoorSy7
import Derived.Test.YtiedkcijjfmhaaaDoorSy8
import Derived.WalkMore
namespace Go.Proofs.YtiedkcijjfmhaaaDoor
open Go.RowKit

set_option maxHeartbeats 400000 in
theorem c_predwire_below (op : Int) (w : World) : Calls Tryd.prog 99 #[.int .i64 op] w (RetV w (.int .i64 (belowOf op))) := by
  go_enter Tryd.func99, Tryd.ntmps99
  go_wp2
  all_goals (go_ret; refine RetV.int ?_ (by repeat (first | exact Below.refl _ _ | refine Below.drew ?_ | refine Below.alloc ?_ (by first | omega | (simp; done) | (simp; omega)) _ | refine Below.setCell ?_ (by first | omega | (simp; done) | (simp; omega)) _ | refine Below.trans ?_ (Below.mono (by assumption) (by first | omega | (simp; done) | (simp; omega))))); simp_all [belowOf])
theorem Blk.five {w : World} {g : Nat} {a b c d e : Value} (h : Blk w g #[a, b, c, d, e]) : w.cell? ⟨g, 0, none⟩ = some a ∧ w.cell? ⟨g, 1, none⟩ = some b ∧ w.cell? ⟨g, 2, none⟩ = some c ∧ w.cell? ⟨g, 3, none⟩ = some d ∧ w.cell? ⟨g, 4, none⟩ = some e ∧ ∀ i, w.frozen? ⟨g, i, none⟩ = false :=
  ⟨h.cell rfl, h.cell rfl, h.cell rfl, h.cell rfl, h.cell rfl, fun i => h.frozen i⟩
theorem RetPS.nil {α : Type} {p : Option Nat} {st' : Rd} {k : Nat} {cs : α → List Value} {et : TypeId} {w w' : World} (r : RdP w' p st') (hk : Kept p w.heap.size w w') : RetPS p st' k cs et w ([] : List α) (.returned (.slice none 0 0)) w' :=
  ⟨_, rfl, World.ownsRow_nil _ _ _ _, r, hk⟩

set_option maxHeartbeats 2000000 in
set_option maxRecDepth 4000 in
theorem c_predwire_Read (p : Option Nat) (st : Rd) (w : World) (h : RdP w p st) : Calls Tryd.prog 83 #[ptr p] w (RetPS p (rdPred' st) 5 Node.cells 80 w (rdPred st)) := by
  have hpl := fun g (hg : p = some g) => h.lt hg
  have EN := elemN
  have hm := rdN_bd st 31
  by_cases h0 : rdN st 31 = 0
  · have hbad : (pdS st).e ≠ 0 := by
      unfold pdS pdA
      rw [if_pos h0, h0]
      exact rdF_bad _ (by decide)
    have hS : pdS st = rdF (rdN' st 31) 3 := by unfold pdS pdA; rw [if_pos h0, h0]; rfl
    rw [(rdPred_bad hbad).1, (rdPred_bad hbad).2, hS]
    have hb : ((rdF (rdN' st 31) 3).e != 0) = true := by rw [← hS]; simpa using hbad
    have H0 := lh h0
    clear h0 hbad hS
    go_enter Tryd.func83, Tryd.ntmps83
    go_wp2_with (fail)
    go_step3
    go_wp2_with (fail)
    refine (c_octet_RNum p st 31 _ h).mono ?_
    rintro e w1 ⟨rfl, hr1, hk1⟩
    rw [H0.out]
    have hz1 := hk1.size
    go_wp2_with (fail)
    refine (c_octet_Fail p _ 3 _ hr1).mono ?_
    rintro e w2 ⟨rfl, hr2, hk2⟩
    have hz2 := hk2.size
    go_wp2_with (fail)
    go_step3
    go_wp2_with (fail)
    go_loopw [4, 13] (fun v i wr => v = .slice none 0 0 ∧ i = .int .i64 0 ∧ wr = w2) (fun _ _ _ => 0)
    case atStart => exact ⟨rfl, rfl, rfl⟩
    case round =>
      obtain ⟨rfl, rfl, rfl⟩ := hrel
      go_wp2_with (fail)
      refine (c_octet_Err p _ _ hr2).mono ?_
      rintro e w3 ⟨rfl, hr3, hk3⟩
      have hz3 := hk3.size
      go_wp2_with (fail)
      rw [Exit.noGoto_ret]
      go_ret
      exact RetPS.nil hr3 (by repeat (first | exact Kept.refl _ _ _ | refine Kept.drew ?_ | refine Kept.alloc ?_ (by first | omega | (simp; done) | (simp; omega)) _ | refine Kept.setCell ?_ (by first | (right; rfl) | (left; first | omega | (simp; done) | (simp; omega))) _ | refine Kept.then_kept ?_ (by assumption) (by first | omega | (simp; done) | (simp; omega)) | refine Kept.then_below ?_ (by assumption) (by first | omega | (simp; done) | (simp; omega)) | refine Kept.low ?_ (by assumption)))
  · have hm0 := rdN_ok h0
    obtain ⟨m, hmm⟩ : ∃ m : Nat, rdN st 31 = (m : Int) := ⟨(rdN st 31).toNat, by omega⟩
    have hm31 : m ≤ 31 := by omega
    have hA : pdA st = rdN' st 31 := by unfold pdA; rw [if_neg h0]
    have HS0 : Hid (pdS st = rdNodes' m (rdN' st 31)) := by show _ = _; unfold pdS; rw [hA, hmm]; rfl
    have HL0 : Hid (pdL st = rdNodes m (rdN' st 31)) := by show _ = _; unfold pdL; rw [hA, hmm]; rfl
    have hmne : ((m : Int) == 0) = false := by rw [← hmm]; simpa using h0
    have Hmm := lh hmm
    clear h0 hm0 hmm hA hm
    go_enter Tryd.func83, Tryd.ntmps83
    go_wp2_with (fail)
    go_step3
    go_wp2_with (fail)
    refine (c_octet_RNum p st 31 _ h).mono ?_
    rintro e w1 ⟨rfl, hr1, hk1⟩
    rw [Hmm.out]
    have hz1 := hk1.size
    go_wp2_with (fail)
    go_step3
    go_wp2_with (fail)
    go_loopw [4, 13] (fun v i wr => ∃ (k : Nat) (s : Rd) (acc : List Node), k ≤ m ∧ i = .int .i64 k ∧ acc.length = k ∧ Hid (wr.ownsRow w.heap.size 80 5 v acc.length (acc.flatMap Node.cells)) ∧ RdP wr p s ∧
        Hid (pdS st = rdNodes' (m - k) s) ∧ Hid ((pdS st).e = 0 → pdL st = acc ++ rdNodes (m - k) s) ∧ Kept p w.heap.size w wr)
      (fun _ i _ => m - (intOf i).toNat)
    case atStart => exact ⟨0, rdN' st 31, [], by omega, rfl, rfl, World.ownsRow_nil _ _ _ _, hr1, HS0.out, fun _ => HL0.out, (by repeat (first | exact Kept.refl _ _ _ | refine Kept.drew ?_ | refine Kept.alloc ?_ (by first | omega | (simp; done) | (simp; omega)) _ | refine Kept.setCell ?_ (by first | (right; rfl) | (left; first | omega | (simp; done) | (simp; omega))) _ | refine Kept.then_kept ?_ (by assumption) (by first | omega | (simp; done) | (simp; omega)) | refine Kept.then_below ?_ (by assumption) (by first | omega | (simp; done) | (simp; omega)) | refine Kept.low ?_ (by assumption)))⟩
    case round =>
      obtain ⟨k, s, acc, hkm, rfl, hacc, O, hr, HS, HL, hk⟩ := hrel
      have hz := hk.size
      have hHacc := lh hacc
      clear hacc hr1 hk1 HS0 HL0 h
      by_cases hlt : k < m
      case neg =>
        have hS : pdS st = s := by have := HS.out; rw [show m - k = 0 by omega] at this; exact this
        by_cases he : s.e = 0
        case neg =>
          have hbad : (pdS st).e ≠ 0 := by rw [hS]; exact he
          have hb : (s.e != 0) = true := by simpa using he
          have HR1 := lh (rdPred_bad hbad).1
          have HR2 := lh ((rdPred_bad hbad).2.trans hS)
          clear he hbad hS
          go_wp2_with (fail)
          refine (c_octet_Err p s _ hr).mono ?_
          rintro e w3 ⟨rfl, hr3, hk3⟩
          have hz3 := hk3.size
          go_wp2_with (fail)
          rw [Exit.noGoto_ret]
          go_ret
          rw [HR1.out, HR2.out]
          exact RetPS.nil hr3 (by repeat (first | exact Kept.refl _ _ _ | refine Kept.drew ?_ | refine Kept.alloc ?_ (by first | omega | (simp; done) | (simp; omega)) _ | refine Kept.setCell ?_ (by first | (right; rfl) | (left; first | omega | (simp; done) | (simp; omega))) _ | refine Kept.then_kept ?_ (by assumption) (by first | omega | (simp; done) | (simp; omega)) | refine Kept.then_below ?_ (by assumption) (by first | omega | (simp; done) | (simp; omega)) | refine Kept.low ?_ (by assumption)))
        have hSe : (pdS st).e = 0 := by rw [hS]; exact he
        have hLe : pdL st = acc := by have := HL.out hSe; rw [show m - k = 0 by omega] at this; simpa [rdNodes] using this
        have hb : (s.e != 0) = false := by simpa using he
        have hl31 := pdL_len st
        have htx : ∀ x ∈ acc, x.v.s.length ≤ 9223372036854775807 := fun x hx => by rw [← hLe] at hx; have := rdNodes_texts _ _ x hx; omega
        have Htx := lh htx
        rw [hLe] at hl31
        have hcc := check_cases hl31
        obtain ⟨A4, c4, rfl, in4⟩ := In.of_own Node.cells_len O.out (by omega)
        have Hin := lh in4
        rcases hcc with hc | hc | hc
        · have HR1 := lh (rdPred_ok hSe (by rw [hLe]; exact hc)).1
          have HR2 := lh ((rdPred_ok hSe (by rw [hLe]; exact hc)).2.trans hS)
          have HS1 := lh hS
          have HLe := lh hLe
          have Hc := lh hc
          clear hc he hSe hS hLe htx in4
          go_wp2_with (fail)
          refine (c_octet_Err p s _ hr).mono ?_
          rintro e w3 ⟨rfl, hr3, hk3⟩
          have hz3 := hk3.size
          have own3 := own_kept O.out hk3 (fun g hg => hpl g hg)
          obtain ⟨A5, c5, hv5, in5⟩ := In.of_own Node.cells_len own3 (by omega)
          obtain ⟨rfl, rfl⟩ : A4 = A5 ∧ c4 = c5 := by injection hv5 with e1 _ e2; exact ⟨e1, e2⟩
          have Own3 := lh own3
          clear own3 hv5
          go_wp2_with (fail)
          refine (c_pred_Check acc A4 c4 _ in5 Htx.out).mono ?_
          rintro e w4 ⟨rfl, hb4⟩
          rw [Hc.out]
          have hz4 := hb4.size
          clear in5
          go_wp2_with (fail)
          rw [Exit.noGoto_ret]
          go_ret
          rw [HR1.out, HR2.out]
          exact ⟨_, rfl, by rw [HLe.out]; exact own_below Own3.out hb4, hr3.below hb4, (by repeat (first | exact Kept.refl _ _ _ | refine Kept.drew ?_ | refine Kept.alloc ?_ (by first | omega | (simp; done) | (simp; omega)) _ | refine Kept.setCell ?_ (by first | (right; rfl) | (left; first | omega | (simp; done) | (simp; omega))) _ | refine Kept.then_kept ?_ (by assumption) (by first | omega | (simp; done) | (simp; omega)) | refine Kept.then_below ?_ (by assumption) (by first | omega | (simp; done) | (simp; omega)) | refine Kept.low ?_ (by assumption)))⟩
        · have HR1 := lh (rdPred_1 hSe (by rw [hLe]; exact hc)).1
          have HR2 := lh ((rdPred_1 hSe (by rw [hLe]; exact hc)).2)
          have HS1 := lh hS
          have HLe := lh hLe
          have Hc := lh hc
          clear hc he hSe hS hLe htx in4
          go_wp2_with (fail)
          refine (c_octet_Err p s _ hr).mono ?_
          rintro e w3 ⟨rfl, hr3, hk3⟩
          have hz3 := hk3.size
          have own3 := own_kept O.out hk3 (fun g hg => hpl g hg)
          obtain ⟨A5, c5, hv5, in5⟩ := In.of_own Node.cells_len own3 (by omega)
          obtain ⟨rfl, rfl⟩ : A4 = A5 ∧ c4 = c5 := by injection hv5 with e1 _ e2; exact ⟨e1, e2⟩
          have Own3 := lh own3
          clear own3 hv5
          go_wp2_with (fail)
          refine (c_pred_Check acc A4 c4 _ in5 Htx.out).mono ?_
          rintro e w4 ⟨rfl, hb4⟩
          rw [Hc.out]
          have hz4 := hb4.size
          clear in5
          go_wp2_with (fail)
          refine (c_octet_Fail p s 3 _ (hr3.below hb4)).mono ?_
          rintro e w5 ⟨rfl, hr5, hk5⟩
          have hz5 := hk5.size
          go_wp2_with (fail)
          rw [Exit.noGoto_ret]
          go_ret
          rw [HR1.out, HR2.out, HS1.out]
          exact RetPS.nil hr5 (by repeat (first | exact Kept.refl _ _ _ | refine Kept.drew ?_ | refine Kept.alloc ?_ (by first | omega | (simp; done) | (simp; omega)) _ | refine Kept.setCell ?_ (by first | (right; rfl) | (left; first | omega | (simp; done) | (simp; omega))) _ | refine Kept.then_kept ?_ (by assumption) (by first | omega | (simp; done) | (simp; omega)) | refine Kept.then_below ?_ (by assumption) (by first | omega | (simp; done) | (simp; omega)) | refine Kept.low ?_ (by assumption)))
        · have HR1 := lh (rdPred_5 hSe (by rw [hLe]; exact hc)).1
          have HR2 := lh ((rdPred_5 hSe (by rw [hLe]; exact hc)).2)
          have HS1 := lh hS
          have HLe := lh hLe
          have Hc := lh hc
          clear hc he hSe hS hLe htx in4
          go_wp2_with (fail)
          refine (c_octet_Err p s _ hr).mono ?_
          rintro e w3 ⟨rfl, hr3, hk3⟩
          have hz3 := hk3.size
          have own3 := own_kept O.out hk3 (fun g hg => hpl g hg)
          obtain ⟨A5, c5, hv5, in5⟩ := In.of_own Node.cells_len own3 (by omega)
          obtain ⟨rfl, rfl⟩ : A4 = A5 ∧ c4 = c5 := by injection hv5 with e1 _ e2; exact ⟨e1, e2⟩
          have Own3 := lh own3
          clear own3 hv5
          go_wp2_with (fail)
          refine (c_pred_Check acc A4 c4 _ in5 Htx.out).mono ?_
          rintro e w4 ⟨rfl, hb4⟩
          rw [Hc.out]
          have hz4 := hb4.size
          clear in5
          go_wp2_with (fail)
          refine (c_octet_Fail p s 5 _ (hr3.below hb4)).mono ?_
          rintro e w5 ⟨rfl, hr5, hk5⟩
          have hz5 := hk5.size
          go_wp2_with (fail)
          rw [Exit.noGoto_ret]
          go_ret
          rw [HR1.out, HR2.out, HS1.out]
          exact RetPS.nil hr5 (by repeat (first | exact Kept.refl _ _ _ | refine Kept.drew ?_ | refine Kept.alloc ?_ (by first | omega | (simp; done) | (simp; omega)) _ | refine Kept.setCell ?_ (by first | (right; rfl) | (left; first | omega | (simp; done) | (simp; omega))) _ | refine Kept.then_kept ?_ (by assumption) (by first | omega | (simp; done) | (simp; omega)) | refine Kept.then_below ?_ (by assumption) (by first | omega | (simp; done) | (simp; omega)) | refine Kept.low ?_ (by assumption)))
      have hHS := HS.out
      have hHL := HL.out
      rw [show m - k = (m - (k + 1)) + 1 by omega] at hHS hHL
      clear HS HL
      by_cases hop : rdN s 12 = 0
      · obtain ⟨hn1, hn2⟩ := rdNodes'_none hop (m - (k + 1))
        have hbad : (pdS st).e ≠ 0 := by rw [hHS, hn1]; exact hn2
        have HR1 := lh (rdPred_bad hbad).1
        have HR2 := lh ((rdPred_bad hbad).2.trans (hHS.trans hn1))
        have hb : ((rdF (rdN' s 12) 3).e != 0) = true := by simpa using hn2
        have Hop := lh hop
        clear hop hbad hHS hHL hn1 hn2
        go_wp2_with (fail)
        refine (c_octet_RNum p s 12 _ hr).mono ?_
        rintro e w3 ⟨rfl, hr3, hk3⟩
        rw [Hop.out]
        have hz3 := hk3.size
        go_wp2_with (fail)
        refine (c_octet_Fail p _ 3 _ (hr3.below ((Below.refl _ _).alloc (Nat.le_refl _) _))).mono ?_
        rintro e w4 ⟨rfl, hr4, hk4⟩
        have hz4 := hk4.size
        simp only [World.size_alloc] at hz4
        go_wp2_with (fail)
        refine (c_octet_Err p _ _ hr4).mono ?_
        rintro e w5 ⟨rfl, hr5, hk5⟩
        have hz5 := hk5.size
        go_wp2_with (fail)
        rw [Exit.noGoto_ret]
        go_ret
        rw [HR1.out, HR2.out]
        exact RetPS.nil hr5 (by repeat (first | exact Kept.refl _ _ _ | refine Kept.drew ?_ | refine Kept.alloc ?_ (by first | omega | (simp; done) | (simp; omega)) _ | refine Kept.setCell ?_ (by first | (right; rfl) | (left; first | omega | (simp; done) | (simp; omega))) _ | refine Kept.then_kept ?_ (by assumption) (by first | omega | (simp; done) | (simp; omega)) | refine Kept.then_below ?_ (by assumption) (by first | omega | (simp; done) | (simp; omega)) | refine Kept.low ?_ (by assumption)))
      have hsok := (rdN_ok hop).1
      rw [rdNodes'_ok hsok] at hHS
      have hHL2 : (pdS st).e = 0 → pdL st = (acc ++ [ndNode s]) ++ rdNodes (m - (k + 1)) (ndD s) := fun h => by rw [hHL h, rdNodes_ok hsok]; simp
      have hopb : ((rdN s 12) == 0) = false := by simpa using hop
      clear hHL hsok
      rcases named_cases (rdN s 12) with ⟨hnm, hvl⟩ | ⟨hnm, hvl⟩ | ⟨hnm, hvl⟩
      · obtain ⟨hnd, hdd⟩ := nd_A hop hnm hvl
        have Hnd := lh hnd
        have Hdd := lh hdd
        have hHS2 := lh hHS
        have hHL3 := lh hHL2
        clear hnd hdd hHS hHL2
        clear hop
        go_wp2_with (fail)
        refine (c_octet_RNum p s 12 _ hr).mono ?_
        rintro e w3 ⟨rfl, hr3, hk3⟩
        have hz3 := hk3.size
        have hwz3 : w.heap.size ≤ w3.heap.size := by omega
        have hpl3 : ∀ g, p = some g → g < w3.heap.size := fun g hg => by have := hpl g hg; omega
        have B3 := lh (Blk.new w3 80 #[.int .i64 (rdN s 12), (.int .i64 0), (.int .i64 0), (.int .i64 0), (.string (str []))])
        go_wp2_with (fail)
        refine (c_predwire_named _ _).mono ?_
        rintro e w4 ⟨rfl, hb4⟩
        have hz4 := hb4.size
        simp only [World.size_alloc] at hz4
        have B4 := lh (B3.out.below hb4 (by simp))
        have hr4 := (hr3.below ((Below.refl _ _).alloc (Nat.le_refl _) _)).below hb4
        obtain ⟨a0, a1, a2, a3, a4, af⟩ := B4.out.five
        go_wp2_with (fail)
        refine (c_predwire_valued _ _).mono ?_
        rintro e w5 ⟨rfl, hb5⟩
        have hz5 := hb5.size
        have B5 := lh (B4.out.below hb5 B4.out.lt)
        clear a0 a1 a2 a3 a4 af
        obtain ⟨a0, a1, a2, a3, a4, af⟩ := B5.out.five
        have O5 := own_below (own_below (own_below (own_kept O.out hk3 hpl) ((Below.refl _ _).alloc (Nat.le_refl _) _)) hb4) hb5
        go_wp2_with ((at_builtin; refine Stop.out ?_))
        refine Stop.mk (wpList_app _ rfl (.tmp 46) (.tmp 48) EN rfl w.heap.size _ acc.length (acc.flatMap Node.cells) rfl ((O5).alloc _) _ 1 1 (ndNode s).cells rfl ?_ ?_ (by have := hHacc.out; omega) ?_ ?_)
        · rw [Hnd.out]; exact Src.new _ _ _ _ rfl
        · rw [Hnd.out]; intro u hu; simp only [Node.cells, List.mem_cons, List.not_mem_nil, or_false] at hu; rcases hu with rfl | rfl | rfl | rfl | rfl <;> rfl
        · simp only [World.size_alloc]; omega
        intro v9 w9 own9 g9 b9 _
        have hz9 := b9.size
        simp only [World.size_alloc] at hz9
        have hfin : Hid (acc.flatMap Node.cells ++ (ndNode s).cells = (acc ++ [ndNode s]).flatMap Node.cells ∧ acc.length + 1 = (acc ++ [ndNode s]).length) := by
          show _ ∧ _
          exact ⟨by rw [List.flatMap_append]; simp, by simp⟩
        obtain ⟨e1, e2⟩ := hfin.out
        rw [e1, e2] at own9
        have O9 := lh own9
        have G9 := lh g9
        clear own9 g9 e1 e2
        go_wp2_with (fail)
        go_roundw
        case rel => exact ⟨k + 1, ndD s, acc ++ [ndNode s], by omega, by go_num, by have := hHacc.out; simp; omega, O9.out, (by rw [Hdd.out]; exact (hr4.below hb5).up (B := w.heap.size) (by repeat (first | exact Below.refl _ _ | refine Below.drew ?_ | refine Below.alloc ?_ (by first | omega | (simp; done) | (simp; omega)) _ | refine Below.setCell ?_ (by first | omega | (simp; done) | (simp; omega)) _ | refine Below.trans ?_ (Below.mono (by assumption) (by first | omega | (simp; done) | (simp; omega))))) hpl), hHS2.out, hHL3.out, (by repeat (first | exact Kept.refl _ _ _ | refine Kept.drew ?_ | refine Kept.alloc ?_ (by first | omega | (simp; done) | (simp; omega)) _ | refine Kept.setCell ?_ (by first | (right; rfl) | (left; first | omega | (simp; done) | (simp; omega))) _ | refine Kept.then_kept ?_ (by assumption) (by first | omega | (simp; done) | (simp; omega)) | refine Kept.then_below ?_ (by assumption) (by first | omega | (simp; done) | (simp; omega)) | refine Kept.low ?_ (by assumption)))⟩
        case measure => simp [intOf]; omega
      · obtain ⟨hnd, hdd⟩ := nd_B hop hnm hvl
        have Hnd := lh hnd
        have Hdd := lh hdd
        have hHS2 := lh hHS
        have hHL3 := lh hHL2
        clear hnd hdd hHS hHL2
        clear hop
        go_wp2_with (fail)
        refine (c_octet_RNum p s 12 _ hr).mono ?_
        rintro e w3 ⟨rfl, hr3, hk3⟩
        have hz3 := hk3.size
        have hwz3 : w.heap.size ≤ w3.heap.size := by omega
        have hpl3 : ∀ g, p = some g → g < w3.heap.size := fun g hg => by have := hpl g hg; omega
        have B3 := lh (Blk.new w3 80 #[.int .i64 (rdN s 12), (.int .i64 0), (.int .i64 0), (.int .i64 0), (.string (str []))])
        go_wp2_with (fail)
        refine (c_predwire_named _ _).mono ?_
        rintro e w4 ⟨rfl, hb4⟩
        have hz4 := hb4.size
        simp only [World.size_alloc] at hz4
        have B4 := lh (B3.out.below hb4 (by simp))
        have hr4 := (hr3.below ((Below.refl _ _).alloc (Nat.le_refl _) _)).below hb4
        obtain ⟨a0, a1, a2, a3, a4, af⟩ := B4.out.five
        go_wp2_with (fail)
        refine (c_predwire_below _ _).mono ?_
        rintro e w5 ⟨rfl, hb5⟩
        have hz5 := hb5.size
        have hbd := belowOf_bd (rdN s 12)
        have hr5 := hr4.below hb5
        go_wp2_with (fail)
        refine (c_octet_RNum p (rdN' s 12) (belowOf (rdN s 12) - 1) _ hr5).mono ?_
        rintro e w6 ⟨rfl, hr6, hk6⟩
        have hz6 := hk6.size
        have B6 := lh ((B4.out.below hb5 B4.out.lt).kept hk6 (by omega) (ne_of_lt hpl3 (Nat.le_refl _)))
        clear a0 a1 a2 a3 a4 af
        obtain ⟨a0, a1, a2, a3, a4, af⟩ := B6.out.five
        go_wp2_with (fail)
        refine (c_predwire_valued _ _).mono ?_
        rintro e w7 ⟨rfl, hb7⟩
        have hz7' := hb7.size
        have hz7 : w6.heap.size ≤ w7.heap.size := by simpa [World.setCell] using hz7'
        clear hz7'
        have B7 := lh ((B6.out.store 1 (.int .i64 (rdN (rdN' s 12) (belowOf (rdN s 12) - 1)))).below hb7 (by simp [World.setCell]; omega) : Blk w7 w3.heap.size #[.int .i64 (rdN s 12), (.int .i64 (rdN (rdN' s 12) (belowOf (rdN s 12) - 1))), (.int .i64 0), (.int .i64 0), (.string (str []))])
        clear a0 a1 a2 a3 a4 af
        obtain ⟨a0, a1, a2, a3, a4, af⟩ := B7.out.five
        have O6 := own_kept (own_below (own_below (own_below (own_kept O.out hk3 hpl) ((Below.refl _ _).alloc (Nat.le_refl _) _)) hb4) hb5) hk6 hpl
        have hob := own_lt (own_kept O.out hk3 hpl) (Nat.le_refl w3.heap.size)
        have O7 := own_below (own_far (a := ⟨w3.heap.size, 1, none⟩) (u := .int .i64 (rdN (rdN' s 12) (belowOf (rdN s 12) - 1))) O6 hob) hb7
        go_wp2_with ((at_builtin; refine Stop.out ?_))
        refine Stop.mk (wpList_app _ rfl (.tmp 46) (.tmp 48) EN rfl w.heap.size _ acc.length (acc.flatMap Node.cells) rfl ((O7).alloc _) _ 1 1 (ndNode s).cells rfl ?_ ?_ (by have := hHacc.out; omega) ?_ ?_)
        · rw [Hnd.out]; exact Src.new _ _ _ _ rfl
        · rw [Hnd.out]; intro u hu; simp only [Node.cells, List.mem_cons, List.not_mem_nil, or_false] at hu; rcases hu with rfl | rfl | rfl | rfl | rfl <;> rfl
        · simp only [World.size_alloc]; omega
        intro v9 w9 own9 g9 b9 _
        have hz9 := b9.size
        simp only [World.size_alloc] at hz9
        have hfin : Hid (acc.flatMap Node.cells ++ (ndNode s).cells = (acc ++ [ndNode s]).flatMap Node.cells ∧ acc.length + 1 = (acc ++ [ndNode s]).length) := by
          show _ ∧ _
          exact ⟨by rw [List.flatMap_append]; simp, by simp⟩
        obtain ⟨e1, e2⟩ := hfin.out
        rw [e1, e2] at own9
        have O9 := lh own9
        have G9 := lh g9
        clear own9 g9 e1 e2
        go_wp2_with (fail)
        go_roundw
        case rel => exact ⟨k + 1, ndD s, acc ++ [ndNode s], by omega, by go_num, by have := hHacc.out; simp; omega, O9.out, (by rw [Hdd.out]; exact ((hr6.own (b := w3.heap.size) (by repeat (first | exact Kept.refl _ _ _ | refine Kept.drew ?_ | refine Kept.alloc ?_ (by first | omega | (simp; done) | (simp; omega)) _ | refine Kept.setCell ?_ (by first | (right; rfl) | (left; first | omega | (simp; done) | (simp; omega))) _ | refine Kept.then_kept ?_ (by assumption) (by first | omega | (simp; done) | (simp; omega)) | refine Kept.then_below ?_ (by assumption) (by first | omega | (simp; done) | (simp; omega)) | refine Kept.low ?_ (by assumption))) hpl3).below hb7).up (B := w.heap.size) (by repeat (first | exact Below.refl _ _ | refine Below.drew ?_ | refine Below.alloc ?_ (by first | omega | (simp; done) | (simp; omega)) _ | refine Below.setCell ?_ (by first | omega | (simp; done) | (simp; omega)) _ | refine Below.trans ?_ (Below.mono (by assumption) (by first | omega | (simp; done) | (simp; omega))))) hpl), hHS2.out, hHL3.out, (by repeat (first | exact Kept.refl _ _ _ | refine Kept.drew ?_ | refine Kept.alloc ?_ (by first | omega | (simp; done) | (simp; omega)) _ | refine Kept.setCell ?_ (by first | (right; rfl) | (left; first | omega | (simp; done) | (simp; omega))) _ | refine Kept.then_kept ?_ (by assumption) (by first | omega | (simp; done) | (simp; omega)) | refine Kept.then_below ?_ (by assumption) (by first | omega | (simp; done) | (simp; omega)) | refine Kept.low ?_ (by assumption)))⟩
        case measure => simp [intOf]; omega
      · obtain ⟨hnd, hdd⟩ := nd_C hop hnm hvl
        cases hok : (ndNode s).ok
        case false =>
          rw [hok, if_pos rfl] at hdd
          have hbad : (pdS st).e ≠ 0 := by rw [hHS, hdd, rdNodes'_bad (rdF_bad _ (by decide))]; exact rdF_bad _ (by decide)
          have hS' : pdS st = rdF (rdVal' (rdN' (rdN' s 12) (belowOf (rdN s 12) - 1))) 3 := by rw [hHS, hdd, rdNodes'_bad (rdF_bad _ (by decide))]
          have hb : ((rdF (rdVal' (rdN' (rdN' s 12) (belowOf (rdN s 12) - 1))) 3).e != 0) = true := by rw [← hS']; simpa using hbad
          have HR1 := lh (rdPred_bad hbad).1
          have HR2 := lh ((rdPred_bad hbad).2.trans hS')
          rw [hnd] at hok
          have Hok := lh hok
          clear hnd hdd hHS hHL2 hok hbad hS'
          clear hop
          go_wp2_with (fail)
          refine (c_octet_RNum p s 12 _ hr).mono ?_
          rintro e w3 ⟨rfl, hr3, hk3⟩
          have hz3 := hk3.size
          have hwz3 : w.heap.size ≤ w3.heap.size := by omega
          have hpl3 : ∀ g, p = some g → g < w3.heap.size := fun g hg => by have := hpl g hg; omega
          have B3 := lh (Blk.new w3 80 #[.int .i64 (rdN s 12), (.int .i64 0), (.int .i64 0), (.int .i64 0), (.string (str []))])
          go_wp2_with (fail)
          refine (c_predwire_named _ _).mono ?_
          rintro e w4 ⟨rfl, hb4⟩
          have hz4 := hb4.size
          simp only [World.size_alloc] at hz4
          have B4 := lh (B3.out.below hb4 (by simp))
          have hr4 := (hr3.below ((Below.refl _ _).alloc (Nat.le_refl _) _)).below hb4
          obtain ⟨a0, a1, a2, a3, a4, af⟩ := B4.out.five
          go_wp2_with (fail)
          refine (c_predwire_below _ _).mono ?_
          rintro e w5 ⟨rfl, hb5⟩
          have hz5 := hb5.size
          have hbd := belowOf_bd (rdN s 12)
          have hr5 := hr4.below hb5
          go_wp2_with (fail)
          refine (c_octet_RNum p (rdN' s 12) (belowOf (rdN s 12) - 1) _ hr5).mono ?_
          rintro e w6 ⟨rfl, hr6, hk6⟩
          have hz6 := hk6.size
          have B6 := lh ((B4.out.below hb5 B4.out.lt).kept hk6 (by omega) (ne_of_lt hpl3 (Nat.le_refl _)))
          clear a0 a1 a2 a3 a4 af
          obtain ⟨a0, a1, a2, a3, a4, af⟩ := B6.out.five
          go_wp2_with (fail)
          refine (c_predwire_valued _ _).mono ?_
          rintro e w7 ⟨rfl, hb7⟩
          have hz7' := hb7.size
          have hz7 : w6.heap.size ≤ w7.heap.size := by simpa [World.setCell] using hz7'
          clear hz7'
          have B7 := lh ((B6.out.store 1 (.int .i64 (rdN (rdN' s 12) (belowOf (rdN s 12) - 1)))).below hb7 (by simp [World.setCell]; omega) : Blk w7 w3.heap.size #[.int .i64 (rdN s 12), (.int .i64 (rdN (rdN' s 12) (belowOf (rdN s 12) - 1))), (.int .i64 0), (.int .i64 0), (.string (str []))])
          clear a0 a1 a2 a3 a4 af
          obtain ⟨a0, a1, a2, a3, a4, af⟩ := B7.out.five
          have O6 := own_kept (own_below (own_below (own_below (own_kept O.out hk3 hpl) ((Below.refl _ _).alloc (Nat.le_refl _) _)) hb4) hb5) hk6 hpl
          have hob := own_lt (own_kept O.out hk3 hpl) (Nat.le_refl w3.heap.size)
          have O7 := own_below (own_far (a := ⟨w3.heap.size, 1, none⟩) (u := .int .i64 (rdN (rdN' s 12) (belowOf (rdN s 12) - 1))) O6 hob) hb7
          go_wp2_with (fail)
          have hr7 := (hr6.own (b := w3.heap.size) (w' := w6.setCell ⟨w3.heap.size, 1, none⟩ (.int .i64 (rdN (rdN' s 12) (belowOf (rdN s 12) - 1)))) (by repeat (first | exact Kept.refl _ _ _ | refine Kept.drew ?_ | refine Kept.alloc ?_ (by first | omega | (simp; done) | (simp; omega)) _ | refine Kept.setCell ?_ (by first | (right; rfl) | (left; first | omega | (simp; done) | (simp; omega))) _ | refine Kept.then_kept ?_ (by assumption) (by first | omega | (simp; done) | (simp; omega)) | refine Kept.then_below ?_ (by assumption) (by first | omega | (simp; done) | (simp; omega)) | refine Kept.low ?_ (by assumption))) hpl3).below hb7
          refine (c_cardwire_Value p _ _ hr7).mono ?_
          rintro e w8 ⟨rfl, hr8, hk8⟩
          have hz8 := hk8.size
          have B8 := lh (B7.out.kept hk8 (by omega) (ne_of_lt hpl3 (Nat.le_refl _)))
          clear a0 a1 a2 a3 a4 af
          obtain ⟨a0, a1, a2, a3, a4, af⟩ := B8.out.five
          have O8 := own_kept O7 hk8 hpl
          have hlen8 := rdVal_len (rdN' (rdN' s 12) (belowOf (rdN s 12) - 1))
          go_wp2_with (fail)
          refine (c_pred_Node ⟨rdN s 12, rdN (rdN' s 12) (belowOf (rdN s 12) - 1), rdVal (rdN' (rdN' s 12) (belowOf (rdN s 12) - 1))⟩ _ (by simp only; omega)).mono ?_
          rintro e w9 ⟨rfl, hb9⟩
          rw [Hok.out]
          have hz9' := hb9.size
          have hz9 : w8.heap.size ≤ w9.heap.size := by simpa [World.setCell] using hz9'
          clear hz9'
          have B9 := lh (((((B8.out.store 2 (.int .i64 (rdVal (rdN' (rdN' s 12) (belowOf (rdN s 12) - 1))).kind)).store 3 (.int .i64 (rdVal (rdN' (rdN' s 12) (belowOf (rdN s 12) - 1))).n)).store 4 (.string (str (rdVal (rdN' (rdN' s 12) (belowOf (rdN s 12) - 1))).s))).below hb9 (by simp [World.setCell]; omega)) : Blk w9 w3.heap.size #[.int .i64 (rdN s 12), (.int .i64 (rdN (rdN' s 12) (belowOf (rdN s 12) - 1))), .int .i64 (rdVal (rdN' (rdN' s 12) (belowOf (rdN s 12) - 1))).kind, .int .i64 (rdVal (rdN' (rdN' s 12) (belowOf (rdN s 12) - 1))).n, .string (str (rdVal (rdN' (rdN' s 12) (belowOf (rdN s 12) - 1))).s)])
          clear a0 a1 a2 a3 a4 af
          obtain ⟨a0, a1, a2, a3, a4, af⟩ := B9.out.five
          go_wp2_with (fail)
          have hr9 := (hr8.own (b := w3.heap.size) (w' := ((w8.setCell ⟨w3.heap.size, 2, none⟩ (.int .i64 (rdVal (rdN' (rdN' s 12) (belowOf (rdN s 12) - 1))).kind)).setCell ⟨w3.heap.size, 3, none⟩ (.int .i64 (rdVal (rdN' (rdN' s 12) (belowOf (rdN s 12) - 1))).n)).setCell ⟨w3.heap.size, 4, none⟩ (.string (str (rdVal (rdN' (rdN' s 12) (belowOf (rdN s 12) - 1))).s))) (by repeat (first | exact Kept.refl _ _ _ | refine Kept.drew ?_ | refine Kept.alloc ?_ (by first | omega | (simp; done) | (simp; omega)) _ | refine Kept.setCell ?_ (by first | (right; rfl) | (left; first | omega | (simp; done) | (simp; omega))) _ | refine Kept.then_kept ?_ (by assumption) (by first | omega | (simp; done) | (simp; omega)) | refine Kept.then_below ?_ (by assumption) (by first | omega | (simp; done) | (simp; omega)) | refine Kept.low ?_ (by assumption))) (fun g hg => by have := hpl3 g hg; omega)).below hb9
          refine (c_octet_Fail p _ 3 _ hr9).mono ?_
          rintro e w10 ⟨rfl, hr10, hk10⟩
          have hz10 := hk10.size
          go_wp2_with (fail)
          refine (c_octet_Err p _ _ hr10).mono ?_
          rintro e w11 ⟨rfl, hr11, hk11⟩
          have hz11 := hk11.size
          go_wp2_with (fail)
          rw [Exit.noGoto_ret]
          go_ret
          rw [HR1.out, HR2.out]
          exact RetPS.nil hr11 (by repeat (first | exact Kept.refl _ _ _ | refine Kept.drew ?_ | refine Kept.alloc ?_ (by first | omega | (simp; done) | (simp; omega)) _ | refine Kept.setCell ?_ (by first | (right; rfl) | (left; first | omega | (simp; done) | (simp; omega))) _ | refine Kept.then_kept ?_ (by assumption) (by first | omega | (simp; done) | (simp; omega)) | refine Kept.then_below ?_ (by assumption) (by first | omega | (simp; done) | (simp; omega)) | refine Kept.low ?_ (by assumption)))
        case true =>
          rw [hok, if_neg (by decide)] at hdd
          have Hnd := lh hnd
          have Hdd := lh hdd
          have hHS2 := lh hHS
          have hHL3 := lh hHL2
          rw [hnd] at hok
          have Hok := lh hok
          clear hnd hdd hHS hHL2 hok
          clear hop
          go_wp2_with (fail)
          refine (c_octet_RNum p s 12 _ hr).mono ?_
          rintro e w3 ⟨rfl, hr3, hk3⟩
          have hz3 := hk3.size
          have hwz3 : w.heap.size ≤ w3.heap.size := by omega
          have hpl3 : ∀ g, p = some g → g < w3.heap.size := fun g hg => by have := hpl g hg; omega
          have B3 := lh (Blk.new w3 80 #[.int .i64 (rdN s 12), (.int .i64 0), (.int .i64 0), (.int .i64 0), (.string (str []))])
          go_wp2_with (fail)
          refine (c_predwire_named _ _).mono ?_
          rintro e w4 ⟨rfl, hb4⟩
          have hz4 := hb4.size
          simp only [World.size_alloc] at hz4
          have B4 := lh (B3.out.below hb4 (by simp))
          have hr4 := (hr3.below ((Below.refl _ _).alloc (Nat.le_refl _) _)).below hb4
          obtain ⟨a0, a1, a2, a3, a4, af⟩ := B4.out.five
          go_wp2_with (fail)
          refine (c_predwire_below _ _).mono ?_
          rintro e w5 ⟨rfl, hb5⟩
          have hz5 := hb5.size
          have hbd := belowOf_bd (rdN s 12)
          have hr5 := hr4.below hb5
          go_wp2_with (fail)
          refine (c_octet_RNum p (rdN' s 12) (belowOf (rdN s 12) - 1) _ hr5).mono ?_
          rintro e w6 ⟨rfl, hr6, hk6⟩
          have hz6 := hk6.size
          have B6 := lh ((B4.out.below hb5 B4.out.lt).kept hk6 (by omega) (ne_of_lt hpl3 (Nat.le_refl _)))
          clear a0 a1 a2 a3 a4 af
          obtain ⟨a0, a1, a2, a3, a4, af⟩ := B6.out.five
          go_wp2_with (fail)
          refine (c_predwire_valued _ _).mono ?_
          rintro e w7 ⟨rfl, hb7⟩
          have hz7' := hb7.size
          have hz7 : w6.heap.size ≤ w7.heap.size := by simpa [World.setCell] using hz7'
          clear hz7'
          have B7 := lh ((B6.out.store 1 (.int .i64 (rdN (rdN' s 12) (belowOf (rdN s 12) - 1)))).below hb7 (by simp [World.setCell]; omega) : Blk w7 w3.heap.size #[.int .i64 (rdN s 12), (.int .i64 (rdN (rdN' s 12) (belowOf (rdN s 12) - 1))), (.int .i64 0), (.int .i64 0), (.string (str []))])
          clear a0 a1 a2 a3 a4 af
          obtain ⟨a0, a1, a2, a3, a4, af⟩ := B7.out.five
          have O6 := own_kept (own_below (own_below (own_below (own_kept O.out hk3 hpl) ((Below.refl _ _).alloc (Nat.le_refl _) _)) hb4) hb5) hk6 hpl
          have hob := own_lt (own_kept O.out hk3 hpl) (Nat.le_refl w3.heap.size)
          have O7 := own_below (own_far (a := ⟨w3.heap.size, 1, none⟩) (u := .int .i64 (rdN (rdN' s 12) (belowOf (rdN s 12) - 1))) O6 hob) hb7
          go_wp2_with (fail)
          have hr7 := (hr6.own (b := w3.heap.size) (w' := w6.setCell ⟨w3.heap.size, 1, none⟩ (.int .i64 (rdN (rdN' s 12) (belowOf (rdN s 12) - 1)))) (by repeat (first | exact Kept.refl _ _ _ | refine Kept.drew ?_ | refine Kept.alloc ?_ (by first | omega | (simp; done) | (simp; omega)) _ | refine Kept.setCell ?_ (by first | (right; rfl) | (left; first | omega | (simp; done) | (simp; omega))) _ | refine Kept.then_kept ?_ (by assumption) (by first | omega | (simp; done) | (simp; omega)) | refine Kept.then_below ?_ (by assumption) (by first | omega | (simp; done) | (simp; omega)) | refine Kept.low ?_ (by assumption))) hpl3).below hb7
          refine (c_cardwire_Value p _ _ hr7).mono ?_
          rintro e w8 ⟨rfl, hr8, hk8⟩
          have hz8 := hk8.size
          have B8 := lh (B7.out.kept hk8 (by omega) (ne_of_lt hpl3 (Nat.le_refl _)))
          clear a0 a1 a2 a3 a4 af
          obtain ⟨a0, a1, a2, a3, a4, af⟩ := B8.out.five
          have O8 := own_kept O7 hk8 hpl
          have hlen8 := rdVal_len (rdN' (rdN' s 12) (belowOf (rdN s 12) - 1))
          go_wp2_with (fail)
          refine (c_pred_Node ⟨rdN s 12, rdN (rdN' s 12) (belowOf (rdN s 12) - 1), rdVal (rdN' (rdN' s 12) (belowOf (rdN s 12) - 1))⟩ _ (by simp only; omega)).mono ?_
          rintro e w9 ⟨rfl, hb9⟩
          rw [Hok.out]
          have hz9' := hb9.size
          have hz9 : w8.heap.size ≤ w9.heap.size := by simpa [World.setCell] using hz9'
          clear hz9'
          have B9 := lh (((((B8.out.store 2 (.int .i64 (rdVal (rdN' (rdN' s 12) (belowOf (rdN s 12) - 1))).kind)).store 3 (.int .i64 (rdVal (rdN' (rdN' s 12) (belowOf (rdN s 12) - 1))).n)).store 4 (.string (str (rdVal (rdN' (rdN' s 12) (belowOf (rdN s 12) - 1))).s))).below hb9 (by simp [World.setCell]; omega)) : Blk w9 w3.heap.size #[.int .i64 (rdN s 12), (.int .i64 (rdN (rdN' s 12) (belowOf (rdN s 12) - 1))), .int .i64 (rdVal (rdN' (rdN' s 12) (belowOf (rdN s 12) - 1))).kind, .int .i64 (rdVal (rdN' (rdN' s 12) (belowOf (rdN s 12) - 1))).n, .string (str (rdVal (rdN' (rdN' s 12) (belowOf (rdN s 12) - 1))).s)])
          clear a0 a1 a2 a3 a4 af
          obtain ⟨a0, a1, a2, a3, a4, af⟩ := B9.out.five
          have hr9 := (hr8.own (b := w3.heap.size) (w' := ((w8.setCell ⟨w3.heap.size, 2, none⟩ (.int .i64 (rdVal (rdN' (rdN' s 12) (belowOf (rdN s 12) - 1))).kind)).setCell ⟨w3.heap.size, 3, none⟩ (.int .i64 (rdVal (rdN' (rdN' s 12) (belowOf (rdN s 12) - 1))).n)).setCell ⟨w3.heap.size, 4, none⟩ (.string (str (rdVal (rdN' (rdN' s 12) (belowOf (rdN s 12) - 1))).s))) (by repeat (first | exact Kept.refl _ _ _ | refine Kept.drew ?_ | refine Kept.alloc ?_ (by first | omega | (simp; done) | (simp; omega)) _ | refine Kept.setCell ?_ (by first | (right; rfl) | (left; first | omega | (simp; done) | (simp; omega))) _ | refine Kept.then_kept ?_ (by assumption) (by first | omega | (simp; done) | (simp; omega)) | refine Kept.then_below ?_ (by assumption) (by first | omega | (simp; done) | (simp; omega)) | refine Kept.low ?_ (by assumption))) (fun g hg => by have := hpl3 g hg; omega)).below hb9
          have O9a := own_below (own_far (a := ⟨w3.heap.size, 4, none⟩) (u := .string (str (rdVal (rdN' (rdN' s 12) (belowOf (rdN s 12) - 1))).s)) (own_far (a := ⟨w3.heap.size, 3, none⟩) (u := .int .i64 (rdVal (rdN' (rdN' s 12) (belowOf (rdN s 12) - 1))).n) (own_far (a := ⟨w3.heap.size, 2, none⟩) (u := .int .i64 (rdVal (rdN' (rdN' s 12) (belowOf (rdN s 12) - 1))).kind) O8 hob) hob) hob) hb9
          go_wp2_with ((at_builtin; refine Stop.out ?_))
          refine Stop.mk (wpList_app _ rfl (.tmp 46) (.tmp 48) EN rfl w.heap.size _ acc.length (acc.flatMap Node.cells) rfl ((O9a).alloc _) _ 1 1 (ndNode s).cells rfl ?_ ?_ (by have := hHacc.out; omega) ?_ ?_)
          · rw [Hnd.out]; exact Src.new _ _ _ _ rfl
          · rw [Hnd.out]; intro u hu; simp only [Node.cells, List.mem_cons, List.not_mem_nil, or_false] at hu; rcases hu with rfl | rfl | rfl | rfl | rfl <;> rfl
          · simp only [World.size_alloc]; omega
          intro v9 w9 own9 g9 b9 _
          have hz9 := b9.size
          simp only [World.size_alloc] at hz9
          have hfin : Hid (acc.flatMap Node.cells ++ (ndNode s).cells = (acc ++ [ndNode s]).flatMap Node.cells ∧ acc.length + 1 = (acc ++ [ndNode s]).length) := by
            show _ ∧ _
            exact ⟨by rw [List.flatMap_append]; simp, by simp⟩
          obtain ⟨e1, e2⟩ := hfin.out
          rw [e1, e2] at own9
          have O9 := lh own9
          have G9 := lh g9
          clear own9 g9 e1 e2
          go_wp2_with (fail)
          go_roundw
          case rel => exact ⟨k + 1, ndD s, acc ++ [ndNode s], by omega, by go_num, by have := hHacc.out; simp; omega, O9.out, (by rw [Hdd.out]; exact (hr9).up (B := w.heap.size) (by repeat (first | exact Below.refl _ _ | refine Below.drew ?_ | refine Below.alloc ?_ (by first | omega | (simp; done) | (simp; omega)) _ | refine Below.setCell ?_ (by first | omega | (simp; done) | (simp; omega)) _ | refine Below.trans ?_ (Below.mono (by assumption) (by first | omega | (simp; done) | (simp; omega))))) hpl), hHS2.out, hHL3.out, (by repeat (first | exact Kept.refl _ _ _ | refine Kept.drew ?_ | refine Kept.alloc ?_ (by first | omega | (simp; done) | (simp; omega)) _ | refine Kept.setCell ?_ (by first | (right; rfl) | (left; first | omega | (simp; done) | (simp; omega))) _ | refine Kept.then_kept ?_ (by assumption) (by first | omega | (simp; done) | (simp; omega)) | refine Kept.then_below ?_ (by assumption) (by first | omega | (simp; done) | (simp; omega)) | refine Kept.low ?_ (by assumption)))⟩
          case measure => simp [intOf]; omega
end Go.Proofs.YtiedkcijjfmhaaaDoor
