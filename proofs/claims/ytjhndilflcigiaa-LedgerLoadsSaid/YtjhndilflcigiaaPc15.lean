/-
  The walk of (*Ledger).Data: the rows, each with a filter of its own. (Printed by gen30o.py.)
-/
import Derived.Test.YtjhndilflcigiaaPc14
import Derived.Test.YtjhndilflcigiaaRows
import Derived.WalkKit
import Derived.WalkSpells
import Derived.WalkLawsBesides
import Derived.Lib.Hide
import Derived.Deep.QuietTactic
import Derived.BigQuiet
import Derived.Maps.AppendAt
import Derived.WalkSmall
import Derived.ProofKit
import Derived.OpenShut
import Derived.JoinedCond
import Derived.Deep.Slices
import Derived.Deep.Fields
import Derived.Carry
import Derived.Test.YtjhndilflcigiaaProg
import Derived.Deep.CutBlock
import Derived.Deep.DeepCutAuto
import Derived.Deep.AppendSrc
import Derived.Lib.AppendStr
import Derived.Laws.BytesArg
import Derived.Laws.CopyOwn
import Derived.Outline
import Derived.IntWalk
import Derived.Lib.EndianBits
import Derived.Laws.Tables
import Derived.Laws.Rows
import Derived.Shelf.Spec.TrailingZeros
import Derived.StillTail
import Derived.Lib.AppendZeros
import Derived.Deep.Quiet
import Derived.ChangeKeysEq
import Derived.Laws.StructEq
import Derived.Laws.LoneSync
namespace Go.Proofs.Ytjhndilflcigiaa
open Go.RowKit

theorem elemRow : Elem Try.prog 58 77 12 112 := Elem.mk' (z := .agg (LR.cells (⟨0, 0, rz⟩, none, 0)).toArray) Try.underlying58 (by kernel_rfl) rfl (by omega) (by omega)
theorem rows_one (l : List LR) : ∀ u ∈ l.flatMap LR.cells, u.oneCell' = true := by
  intro u hu
  obtain ⟨x, _, hx⟩ := List.mem_flatMap.1 hu
  simp only [LR.cells, List.cons_append, List.nil_append, List.mem_cons, List.not_mem_nil, or_false] at hx
  rcases hx with rfl | rfl | rfl | rfl | rfl | rfl | rfl | rfl | rfl | rfl | rfl | rfl <;> rfl
/-- A row's filter is of the call's own. -/
def OwnF (w : World) (B : Nat) (x : LR) : Prop := w.ownsRow B 102 5 (.slice x.2.1 x.1.a.f.length x.2.2) x.1.a.f.length (x.1.a.f.flatMap Node.cells)
/-- A new slice of rows, each with a filter of its own. -/
def RetRows (w : World) (l : List LRow) (e : Ending) (w' : World) : Prop :=
  ∃ os : List LR, rowsOf os = l ∧ RetS 12 LR.cells 77 w os e w' ∧ ∀ o ∈ os, OwnF w' w.heap.size o
def Sp.ownLR (B : Nat) (x : LRow) : Sp := ⟨fun v w => ∃ A c, v = .agg (LR.cells (x, A, c)).toArray ∧ OwnF w B (x, A, c), fun _ _ _ ⟨A, c, h1, h2⟩ hb => ⟨A, c, h1, own_below h2 hb⟩⟩
theorem Sp.ownLR_holds (B : Nat) (x : LRow) (v : Value) (w : World) : (Sp.ownLR B x).holds v w = ∃ A c, v = .agg (LR.cells (x, A, c)).toArray ∧ OwnF w B (x, A, c) := rfl
def Sp.laidLR (B : Nat) (x : LRow) : Sp := ⟨fun v w => ∃ A c b, v = .slice (some ⟨b, 0, none⟩) 1 1 ∧ b < w.heap.size ∧ (∀ j u, (LR.cells (x, A, c))[j]? = some u → w.cell? ⟨b, j, none⟩ = some u) ∧ OwnF w B (x, A, c),
  fun _ _ _ ⟨A, c, b, h1, h2, h3, h4⟩ hb => ⟨A, c, b, h1, Nat.lt_of_lt_of_le h2 hb.size, fun j u hu => by rw [hb.cell (p := ⟨b, j, none⟩) h2]; exact h3 j u hu, own_below h4 hb⟩⟩
theorem Sp.laidLR_holds (B : Nat) (x : LRow) (v : Value) (w : World) : (Sp.laidLR B x).holds v w = ∃ A c b, v = .slice (some ⟨b, 0, none⟩) 1 1 ∧ b < w.heap.size ∧ (∀ j u, (LR.cells (x, A, c))[j]? = some u → w.cell? ⟨b, j, none⟩ = some u) ∧ OwnF w B (x, A, c) := rfl
theorem rows_take {l : List LR} {k : Nat} (hk : k < l.length) {os : List LR} (h : rowsOf os = (rowsOf l).take k) (A : Option Addr) (c : Nat) : rowsOf (os ++ [(l[k].1, A, c)]) = (rowsOf l).take (k + 1) := by
  unfold rowsOf at h ⊢
  rw [List.map_append, h, List.take_add_one]
  simp [hk]
set_option maxHeartbeats 4000000 in
set_option maxRecDepth 4000 in
theorem c_ledger_Data (g : Nat) (l : List LR) (w : World) (h : Lg w g l) (hfl : ∀ x ∈ l, x.1.a.f.length ≤ 1000000) :
    Calls Try.prog 27 #[.pointer (some ⟨g, 0, none⟩)] w (RetRows w (rowsOf l)) := by
  have HL := Lib.hid h
  have HF := Lib.hid hfl
  have hgl := h.2.1.lt
  clear h hfl
  go_enter Try.func27, Try.ntmps27
  go_wp2_with (fail)
  go_loopw [3, 8] (fun v i wr => ∃ (k : Nat) (os : List LR) (v0 : Value), v = v0 ∧ k ≤ 6 ∧ os.length = k ∧ i = .int .i64 k ∧ Hid (rowsOf os = (rowsOf l).take k) ∧ Hid (wr.ownsRow w.heap.size 77 12 v k (os.flatMap LR.cells)) ∧ Hid (∀ o ∈ os, OwnF wr w.heap.size o) ∧ Hid (Below w.heap.size w wr))
    (fun _ i _ => 6 - (intOf i).toNat)
  case atStart => exact ⟨0, [], _, rfl, by omega, rfl, rfl, by show _ = _; rfl, World.ownsRow_nil _ _ _ _, (show ∀ o ∈ ([] : List LR), OwnF w w.heap.size o from fun _ h => by cases h), Below.refl _ _⟩
  case round =>
    obtain ⟨k, os, v0, rfl, hk, hos, rfl, HR, O, Fz, B1⟩ := hrel
    obtain ⟨A9, c9, rfl, -, -⟩ := own_form O.out
    have hcs : k = 0 ∨ k = 1 ∨ k = 2 ∨ k = 3 ∨ k = 4 ∨ k = 5 ∨ k = 6 := by omega
    have hz := B1.out.size
    have hgw : g < wr.heap.size := by omega
    have HOS := Lib.hid hos
    clear hk hos
    rcases hcs with rfl | rfl | rfl | rfl | rfl | rfl | rfl
    · obtain ⟨x, hx⟩ : ∃ x, x = l[0]'(by rw [HL.out.1]; decide) := ⟨_, rfl⟩
      have hkl : 0 < l.length := by rw [HL.out.1]; decide
      have HX := Lib.hid (show InN wr x.2.1 x.2.2 x.1.a.f from (HL.out.2.2 x (by rw [hx]; exact List.getElem_mem hkl)).1.below B1.out)
      have hxl := HF.out x (by rw [hx]; exact List.getElem_mem hkl)
      have PT := Lib.hid (show ∀ W2, Below wr.heap.size wr W2 → W2.cell? ⟨g, 0, none⟩ = some (.int .i64 x.1.last) ∧ W2.cell? ⟨g, 1, none⟩ = some (.int .i64 x.1.ep) ∧ ∀ j u, (x.1.a.arr x.2.1 x.2.2)[j]? = some u → W2.cell? ⟨g, 2 + j, none⟩ = some u from fun W2 hb2 => by
        have hB := (HL.out.2.1.below (B1.out.trans (hb2.mono hz)) hgl)
        refine ⟨hB.cell (by rw [hx]; exact lg_get hkl 0 (by omega)), hB.cell (by rw [hx]; exact lg_get hkl 1 (by omega)), fun j u hu => lg_part hkl hB j u (by rw [← hx]; exact hu)⟩)
      have HXE := Lib.hid hx
      clear hx
      go_wp2_with (fail)
      refine wp_region_relT [Sp.eq (.slice A9 0 c9), Sp.eq (.pointer (some ⟨g, 0, none⟩)), Sp.eq (.pointer (some ⟨g, 0, none⟩)), Sp.eq (.pointer (some ⟨g, 0, none⟩)), Sp.eq (.int .i64 x.1.last), Sp.eq (.pointer (some ⟨g, 0, none⟩)), Sp.eq (.pointer (some ⟨g, 0, none⟩)), Sp.eq (.pointer (some ⟨g, 1, none⟩)), Sp.eq (.int .i64 x.1.ep), Sp.eq (.pointer (some ⟨g, 0, none⟩)), Sp.eq (.pointer (some ⟨g, 0, none⟩)), Sp.eq (.pointer (some ⟨g, 2, none⟩)), Sp.eq (.agg (x.1.a.arr x.2.1 x.2.2)), Sp.ownRep w.heap.size x.1.a, Sp.ownLR w.heap.size x.1, Sp.laidLR w.heap.size x.1] 35 16 (by kernel_rfl) (by decide) (by kernel_rfl) (by kernel_rfl) (by kernel_rfl) (by kernel_rfl) rfl rfl ?_ ?_
      · refine ⟨?_, ?_, ?_, ?_, ?_, ?_, ?_, ?_, ?_, ?_, ?_, ?_, ?_, ?_, ?_, ?_, trivial⟩
        all_goals (intro u W2 hb2 hd; simp [Deps, Region.binds, Sp.eq_holds, Sp.ownRep_holds, Sp.ownLR_holds] at hd; simp only [putDeps, dstOf, Region.binds])
        case refine_1 =>
          go_wp2_with (fail); exact RelEnd.mk rfl (Below.refl _ _) rfl
        case refine_2 =>
          go_wp2_with (fail); exact RelEnd.mk rfl (Below.refl _ _) rfl
        case refine_3 =>
          go_wp2_with (fail); exact RelEnd.mk rfl (Below.refl _ _) rfl
        case refine_4 =>
          go_wp2_with (fail); exact RelEnd.mk rfl (Below.refl _ _) rfl
        case refine_5 =>
          have q : World.cell? W2 ⟨g, 0, none⟩ = some (.int .i64 x.1.last) := (PT.out W2 hb2).1
          go_wp2_with (fail); exact RelEnd.mk rfl (Below.refl _ _) rfl
        case refine_6 =>
          go_wp2_with (fail); exact RelEnd.mk rfl (Below.refl _ _) rfl
        case refine_7 =>
          go_wp2_with (fail); exact RelEnd.mk rfl (Below.refl _ _) rfl
        case refine_8 =>
          go_wp2_with (fail); exact RelEnd.mk rfl (Below.refl _ _) rfl
        case refine_9 =>
          go_wp2_with (go_at_call 41; refine (c_atomic_Load g 1 x.1.ep _ (PT.out _ hb2).2.1).mono ?_; rintro e3 W3 ⟨rfl, rfl⟩)
          exact RelEnd.mk rfl (Below.refl _ _) rfl
        case refine_10 =>
          go_wp2_with (fail); exact RelEnd.mk rfl (Below.refl _ _) rfl
        case refine_11 =>
          go_wp2_with (fail); exact RelEnd.mk rfl (Below.refl _ _) rfl
        case refine_12 =>
          go_wp2_with (fail); exact RelEnd.mk rfl (Below.refl _ _) rfl
        case refine_13 =>
          go_wp2_with (with_reducible refine stop_loadG 47 _ rfl ?_)
          refine Stop.mk (wpList_loadAtG (by simp [Region.wanted]) _ _ rfl g 2 rfl (x.1.a.arr x.2.1 x.2.2) ((PT.out W2 hb2).2.2) strRp (rfl) ?_)
          go_wp2_with (fail); exact RelEnd.mk rfl (Below.refl _ _) rfl
        case refine_14 =>
          go_wp2_with (go_at_call 40; refine (c_ledger_own x.1.a x.2.1 x.2.2 _ (HX.out.below hb2)).mono ?_; rintro e3 W3 ⟨A6, c6, rfl, own6, hb6⟩)
          exact RelEnd.mk rfl hb6 ⟨A6, c6, rfl, own_base own6 (Nat.le_trans hz hb2.size)⟩
        case refine_15 =>
          obtain ⟨e20, e24, e29⟩ := hd
          obtain ⟨A6, c6, e6, own6⟩ := e29
          go_wp2_with (fail)
          exact RelEnd.mk rfl (Below.refl _ _) ⟨A6, c6, rfl, own6⟩
        case refine_16 =>
          obtain ⟨A6, c6, e6, own6⟩ := hd
          simp only [LR.cells, List.cons_append, List.nil_append] at e6
          go_wp2_with (fail)
          refine RelEnd.mk rfl ((Below.refl _ _).alloc (Nat.le_refl _) _) ?_
          exact ⟨A6, c6, W2.heap.size, rfl, by simp, fun j u hu => by rw [World.cell?_alloc_new, List.getElem?_toArray]; exact hu, own_below own6 ((Below.refl _ _).alloc (Nat.le_refl _) _)⟩
      · intro u W2 hb2 hold
        simp only [RelHold, Sp.eq_holds, Sp.laidLR_holds, Nat.reduceAdd] at hold
        obtain ⟨e0, -, -, -, -, -, -, -, -, -, -, -, -, -, -, ⟨A6, c6, b6, e15, hb6, hc6, own6⟩, -⟩ := hold
        simp only [List.drop, List.take, putAll, Act.put, Nat.reduceAdd, List.setIfInBounds_toArray, List.set_cons_zero, List.set_cons_succ]
        rw [e0, e15]
        have hbd := Lib.hid hb2
        have O2 := Lib.hid (own_below O.out hbd.out)
        have F2 := Lib.hid (fun o ho => own_below (Fz.out o ho) hbd.out)
        have HC := Lib.hid hc6
        have O6 := Lib.hid own6
        have hz2 := hbd.out.size
        clear e0 e15 hc6 own6 hb2
        refine wpList_app _ rfl _ _ elemRow rfl w.heap.size (.slice A9 0 c9) 0 _ rfl O2.out (some ⟨b6, 0, none⟩) 1 1 (LR.cells (x.1, A6, c6)) rfl ⟨rfl, fun _ => ⟨_, rfl, fun j u hu => by rw [add_lit]; exact HC.out j u hu⟩⟩ (by simpa using rows_one [(x.1, A6, c6)]) (by omega) (by omega) ?_
        intro v4 w4 own4 hg4 hb4 _
        have B4 := Lib.hid (B1.out.trans ((hbd.out.mono hz).trans hb4))
        have F4 := Lib.hid (show ∀ o ∈ os ++ [(x.1, A6, c6)], OwnF w4 w.heap.size o from fun o ho => by
          rcases List.mem_append.1 ho with ho | ho
          · exact own_kept_ne (F2.out o ho) O2.out (by decide) hg4
          · rw [List.mem_singleton.1 ho]; exact own_kept_ne O6.out O2.out (by decide) hg4)
        have R4 := Lib.hid (show rowsOf (os ++ [(x.1, A6, c6)]) = (rowsOf l).take 1 by rw [HXE.out]; exact rows_take hkl HR.out A6 c6)
        have O4 := Lib.hid (show w4.ownsRow w.heap.size 77 12 v4 (1) ((os ++ [(x.1, A6, c6)]).flatMap LR.cells) by simpa using own4)
        clear own4 hg4 hb4 HX PT HC O6 F2 O2 O Fz hbd
        go_wp2_with (fail)
        go_roundw
        case rel => exact ⟨1, os ++ [(x.1, A6, c6)], _, rfl, by omega, by rw [List.length_append, HOS.out]; rfl, rfl, R4.out, O4.out, F4.out, B4.out⟩
        case measure => simp [intOf]
    · obtain ⟨x, hx⟩ : ∃ x, x = l[1]'(by rw [HL.out.1]; decide) := ⟨_, rfl⟩
      have hkl : 1 < l.length := by rw [HL.out.1]; decide
      have HX := Lib.hid (show InN wr x.2.1 x.2.2 x.1.a.f from (HL.out.2.2 x (by rw [hx]; exact List.getElem_mem hkl)).1.below B1.out)
      have hxl := HF.out x (by rw [hx]; exact List.getElem_mem hkl)
      have PT := Lib.hid (show ∀ W2, Below wr.heap.size wr W2 → W2.cell? ⟨g, 12, none⟩ = some (.int .i64 x.1.last) ∧ W2.cell? ⟨g, 13, none⟩ = some (.int .i64 x.1.ep) ∧ ∀ j u, (x.1.a.arr x.2.1 x.2.2)[j]? = some u → W2.cell? ⟨g, 14 + j, none⟩ = some u from fun W2 hb2 => by
        have hB := (HL.out.2.1.below (B1.out.trans (hb2.mono hz)) hgl)
        refine ⟨hB.cell (by rw [hx]; exact lg_get hkl 0 (by omega)), hB.cell (by rw [hx]; exact lg_get hkl 1 (by omega)), fun j u hu => lg_part hkl hB j u (by rw [← hx]; exact hu)⟩)
      have HXE := Lib.hid hx
      clear hx
      go_wp2_with (fail)
      refine wp_region_relT [Sp.eq (.slice A9 1 c9), Sp.eq (.pointer (some ⟨g, 12, none⟩)), Sp.eq (.pointer (some ⟨g, 12, none⟩)), Sp.eq (.pointer (some ⟨g, 12, none⟩)), Sp.eq (.int .i64 x.1.last), Sp.eq (.pointer (some ⟨g, 12, none⟩)), Sp.eq (.pointer (some ⟨g, 12, none⟩)), Sp.eq (.pointer (some ⟨g, 13, none⟩)), Sp.eq (.int .i64 x.1.ep), Sp.eq (.pointer (some ⟨g, 12, none⟩)), Sp.eq (.pointer (some ⟨g, 12, none⟩)), Sp.eq (.pointer (some ⟨g, 14, none⟩)), Sp.eq (.agg (x.1.a.arr x.2.1 x.2.2)), Sp.ownRep w.heap.size x.1.a, Sp.ownLR w.heap.size x.1, Sp.laidLR w.heap.size x.1] 35 16 (by kernel_rfl) (by decide) (by kernel_rfl) (by kernel_rfl) (by kernel_rfl) (by kernel_rfl) rfl rfl ?_ ?_
      · refine ⟨?_, ?_, ?_, ?_, ?_, ?_, ?_, ?_, ?_, ?_, ?_, ?_, ?_, ?_, ?_, ?_, trivial⟩
        all_goals (intro u W2 hb2 hd; simp [Deps, Region.binds, Sp.eq_holds, Sp.ownRep_holds, Sp.ownLR_holds] at hd; simp only [putDeps, dstOf, Region.binds])
        case refine_1 =>
          go_wp2_with (fail); exact RelEnd.mk rfl (Below.refl _ _) rfl
        case refine_2 =>
          go_wp2_with (fail); exact RelEnd.mk rfl (Below.refl _ _) rfl
        case refine_3 =>
          go_wp2_with (fail); exact RelEnd.mk rfl (Below.refl _ _) rfl
        case refine_4 =>
          go_wp2_with (fail); exact RelEnd.mk rfl (Below.refl _ _) rfl
        case refine_5 =>
          have q : World.cell? W2 ⟨g, 12, none⟩ = some (.int .i64 x.1.last) := (PT.out W2 hb2).1
          go_wp2_with (fail); exact RelEnd.mk rfl (Below.refl _ _) rfl
        case refine_6 =>
          go_wp2_with (fail); exact RelEnd.mk rfl (Below.refl _ _) rfl
        case refine_7 =>
          go_wp2_with (fail); exact RelEnd.mk rfl (Below.refl _ _) rfl
        case refine_8 =>
          go_wp2_with (fail); exact RelEnd.mk rfl (Below.refl _ _) rfl
        case refine_9 =>
          go_wp2_with (go_at_call 41; refine (c_atomic_Load g 13 x.1.ep _ (PT.out _ hb2).2.1).mono ?_; rintro e3 W3 ⟨rfl, rfl⟩)
          exact RelEnd.mk rfl (Below.refl _ _) rfl
        case refine_10 =>
          go_wp2_with (fail); exact RelEnd.mk rfl (Below.refl _ _) rfl
        case refine_11 =>
          go_wp2_with (fail); exact RelEnd.mk rfl (Below.refl _ _) rfl
        case refine_12 =>
          go_wp2_with (fail); exact RelEnd.mk rfl (Below.refl _ _) rfl
        case refine_13 =>
          go_wp2_with (with_reducible refine stop_loadG 47 _ rfl ?_)
          refine Stop.mk (wpList_loadAtG (by simp [Region.wanted]) _ _ rfl g 14 rfl (x.1.a.arr x.2.1 x.2.2) ((PT.out W2 hb2).2.2) strRp (rfl) ?_)
          go_wp2_with (fail); exact RelEnd.mk rfl (Below.refl _ _) rfl
        case refine_14 =>
          go_wp2_with (go_at_call 40; refine (c_ledger_own x.1.a x.2.1 x.2.2 _ (HX.out.below hb2)).mono ?_; rintro e3 W3 ⟨A6, c6, rfl, own6, hb6⟩)
          exact RelEnd.mk rfl hb6 ⟨A6, c6, rfl, own_base own6 (Nat.le_trans hz hb2.size)⟩
        case refine_15 =>
          obtain ⟨e20, e24, e29⟩ := hd
          obtain ⟨A6, c6, e6, own6⟩ := e29
          go_wp2_with (fail)
          exact RelEnd.mk rfl (Below.refl _ _) ⟨A6, c6, rfl, own6⟩
        case refine_16 =>
          obtain ⟨A6, c6, e6, own6⟩ := hd
          simp only [LR.cells, List.cons_append, List.nil_append] at e6
          go_wp2_with (fail)
          refine RelEnd.mk rfl ((Below.refl _ _).alloc (Nat.le_refl _) _) ?_
          exact ⟨A6, c6, W2.heap.size, rfl, by simp, fun j u hu => by rw [World.cell?_alloc_new, List.getElem?_toArray]; exact hu, own_below own6 ((Below.refl _ _).alloc (Nat.le_refl _) _)⟩
      · intro u W2 hb2 hold
        simp only [RelHold, Sp.eq_holds, Sp.laidLR_holds, Nat.reduceAdd] at hold
        obtain ⟨e0, -, -, -, -, -, -, -, -, -, -, -, -, -, -, ⟨A6, c6, b6, e15, hb6, hc6, own6⟩, -⟩ := hold
        simp only [List.drop, List.take, putAll, Act.put, Nat.reduceAdd, List.setIfInBounds_toArray, List.set_cons_zero, List.set_cons_succ]
        rw [e0, e15]
        have hbd := Lib.hid hb2
        have O2 := Lib.hid (own_below O.out hbd.out)
        have F2 := Lib.hid (fun o ho => own_below (Fz.out o ho) hbd.out)
        have HC := Lib.hid hc6
        have O6 := Lib.hid own6
        have hz2 := hbd.out.size
        clear e0 e15 hc6 own6 hb2
        refine wpList_app _ rfl _ _ elemRow rfl w.heap.size (.slice A9 1 c9) 1 _ rfl O2.out (some ⟨b6, 0, none⟩) 1 1 (LR.cells (x.1, A6, c6)) rfl ⟨rfl, fun _ => ⟨_, rfl, fun j u hu => by rw [add_lit]; exact HC.out j u hu⟩⟩ (by simpa using rows_one [(x.1, A6, c6)]) (by omega) (by omega) ?_
        intro v4 w4 own4 hg4 hb4 _
        have B4 := Lib.hid (B1.out.trans ((hbd.out.mono hz).trans hb4))
        have F4 := Lib.hid (show ∀ o ∈ os ++ [(x.1, A6, c6)], OwnF w4 w.heap.size o from fun o ho => by
          rcases List.mem_append.1 ho with ho | ho
          · exact own_kept_ne (F2.out o ho) O2.out (by decide) hg4
          · rw [List.mem_singleton.1 ho]; exact own_kept_ne O6.out O2.out (by decide) hg4)
        have R4 := Lib.hid (show rowsOf (os ++ [(x.1, A6, c6)]) = (rowsOf l).take 2 by rw [HXE.out]; exact rows_take hkl HR.out A6 c6)
        have O4 := Lib.hid (show w4.ownsRow w.heap.size 77 12 v4 (2) ((os ++ [(x.1, A6, c6)]).flatMap LR.cells) by simpa using own4)
        clear own4 hg4 hb4 HX PT HC O6 F2 O2 O Fz hbd
        go_wp2_with (fail)
        go_roundw
        case rel => exact ⟨2, os ++ [(x.1, A6, c6)], _, rfl, by omega, by rw [List.length_append, HOS.out]; rfl, rfl, R4.out, O4.out, F4.out, B4.out⟩
        case measure => simp [intOf]
    · obtain ⟨x, hx⟩ : ∃ x, x = l[2]'(by rw [HL.out.1]; decide) := ⟨_, rfl⟩
      have hkl : 2 < l.length := by rw [HL.out.1]; decide
      have HX := Lib.hid (show InN wr x.2.1 x.2.2 x.1.a.f from (HL.out.2.2 x (by rw [hx]; exact List.getElem_mem hkl)).1.below B1.out)
      have hxl := HF.out x (by rw [hx]; exact List.getElem_mem hkl)
      have PT := Lib.hid (show ∀ W2, Below wr.heap.size wr W2 → W2.cell? ⟨g, 24, none⟩ = some (.int .i64 x.1.last) ∧ W2.cell? ⟨g, 25, none⟩ = some (.int .i64 x.1.ep) ∧ ∀ j u, (x.1.a.arr x.2.1 x.2.2)[j]? = some u → W2.cell? ⟨g, 26 + j, none⟩ = some u from fun W2 hb2 => by
        have hB := (HL.out.2.1.below (B1.out.trans (hb2.mono hz)) hgl)
        refine ⟨hB.cell (by rw [hx]; exact lg_get hkl 0 (by omega)), hB.cell (by rw [hx]; exact lg_get hkl 1 (by omega)), fun j u hu => lg_part hkl hB j u (by rw [← hx]; exact hu)⟩)
      have HXE := Lib.hid hx
      clear hx
      go_wp2_with (fail)
      refine wp_region_relT [Sp.eq (.slice A9 2 c9), Sp.eq (.pointer (some ⟨g, 24, none⟩)), Sp.eq (.pointer (some ⟨g, 24, none⟩)), Sp.eq (.pointer (some ⟨g, 24, none⟩)), Sp.eq (.int .i64 x.1.last), Sp.eq (.pointer (some ⟨g, 24, none⟩)), Sp.eq (.pointer (some ⟨g, 24, none⟩)), Sp.eq (.pointer (some ⟨g, 25, none⟩)), Sp.eq (.int .i64 x.1.ep), Sp.eq (.pointer (some ⟨g, 24, none⟩)), Sp.eq (.pointer (some ⟨g, 24, none⟩)), Sp.eq (.pointer (some ⟨g, 26, none⟩)), Sp.eq (.agg (x.1.a.arr x.2.1 x.2.2)), Sp.ownRep w.heap.size x.1.a, Sp.ownLR w.heap.size x.1, Sp.laidLR w.heap.size x.1] 35 16 (by kernel_rfl) (by decide) (by kernel_rfl) (by kernel_rfl) (by kernel_rfl) (by kernel_rfl) rfl rfl ?_ ?_
      · refine ⟨?_, ?_, ?_, ?_, ?_, ?_, ?_, ?_, ?_, ?_, ?_, ?_, ?_, ?_, ?_, ?_, trivial⟩
        all_goals (intro u W2 hb2 hd; simp [Deps, Region.binds, Sp.eq_holds, Sp.ownRep_holds, Sp.ownLR_holds] at hd; simp only [putDeps, dstOf, Region.binds])
        case refine_1 =>
          go_wp2_with (fail); exact RelEnd.mk rfl (Below.refl _ _) rfl
        case refine_2 =>
          go_wp2_with (fail); exact RelEnd.mk rfl (Below.refl _ _) rfl
        case refine_3 =>
          go_wp2_with (fail); exact RelEnd.mk rfl (Below.refl _ _) rfl
        case refine_4 =>
          go_wp2_with (fail); exact RelEnd.mk rfl (Below.refl _ _) rfl
        case refine_5 =>
          have q : World.cell? W2 ⟨g, 24, none⟩ = some (.int .i64 x.1.last) := (PT.out W2 hb2).1
          go_wp2_with (fail); exact RelEnd.mk rfl (Below.refl _ _) rfl
        case refine_6 =>
          go_wp2_with (fail); exact RelEnd.mk rfl (Below.refl _ _) rfl
        case refine_7 =>
          go_wp2_with (fail); exact RelEnd.mk rfl (Below.refl _ _) rfl
        case refine_8 =>
          go_wp2_with (fail); exact RelEnd.mk rfl (Below.refl _ _) rfl
        case refine_9 =>
          go_wp2_with (go_at_call 41; refine (c_atomic_Load g 25 x.1.ep _ (PT.out _ hb2).2.1).mono ?_; rintro e3 W3 ⟨rfl, rfl⟩)
          exact RelEnd.mk rfl (Below.refl _ _) rfl
        case refine_10 =>
          go_wp2_with (fail); exact RelEnd.mk rfl (Below.refl _ _) rfl
        case refine_11 =>
          go_wp2_with (fail); exact RelEnd.mk rfl (Below.refl _ _) rfl
        case refine_12 =>
          go_wp2_with (fail); exact RelEnd.mk rfl (Below.refl _ _) rfl
        case refine_13 =>
          go_wp2_with (with_reducible refine stop_loadG 47 _ rfl ?_)
          refine Stop.mk (wpList_loadAtG (by simp [Region.wanted]) _ _ rfl g 26 rfl (x.1.a.arr x.2.1 x.2.2) ((PT.out W2 hb2).2.2) strRp (rfl) ?_)
          go_wp2_with (fail); exact RelEnd.mk rfl (Below.refl _ _) rfl
        case refine_14 =>
          go_wp2_with (go_at_call 40; refine (c_ledger_own x.1.a x.2.1 x.2.2 _ (HX.out.below hb2)).mono ?_; rintro e3 W3 ⟨A6, c6, rfl, own6, hb6⟩)
          exact RelEnd.mk rfl hb6 ⟨A6, c6, rfl, own_base own6 (Nat.le_trans hz hb2.size)⟩
        case refine_15 =>
          obtain ⟨e20, e24, e29⟩ := hd
          obtain ⟨A6, c6, e6, own6⟩ := e29
          go_wp2_with (fail)
          exact RelEnd.mk rfl (Below.refl _ _) ⟨A6, c6, rfl, own6⟩
        case refine_16 =>
          obtain ⟨A6, c6, e6, own6⟩ := hd
          simp only [LR.cells, List.cons_append, List.nil_append] at e6
          go_wp2_with (fail)
          refine RelEnd.mk rfl ((Below.refl _ _).alloc (Nat.le_refl _) _) ?_
          exact ⟨A6, c6, W2.heap.size, rfl, by simp, fun j u hu => by rw [World.cell?_alloc_new, List.getElem?_toArray]; exact hu, own_below own6 ((Below.refl _ _).alloc (Nat.le_refl _) _)⟩
      · intro u W2 hb2 hold
        simp only [RelHold, Sp.eq_holds, Sp.laidLR_holds, Nat.reduceAdd] at hold
        obtain ⟨e0, -, -, -, -, -, -, -, -, -, -, -, -, -, -, ⟨A6, c6, b6, e15, hb6, hc6, own6⟩, -⟩ := hold
        simp only [List.drop, List.take, putAll, Act.put, Nat.reduceAdd, List.setIfInBounds_toArray, List.set_cons_zero, List.set_cons_succ]
        rw [e0, e15]
        have hbd := Lib.hid hb2
        have O2 := Lib.hid (own_below O.out hbd.out)
        have F2 := Lib.hid (fun o ho => own_below (Fz.out o ho) hbd.out)
        have HC := Lib.hid hc6
        have O6 := Lib.hid own6
        have hz2 := hbd.out.size
        clear e0 e15 hc6 own6 hb2
        refine wpList_app _ rfl _ _ elemRow rfl w.heap.size (.slice A9 2 c9) 2 _ rfl O2.out (some ⟨b6, 0, none⟩) 1 1 (LR.cells (x.1, A6, c6)) rfl ⟨rfl, fun _ => ⟨_, rfl, fun j u hu => by rw [add_lit]; exact HC.out j u hu⟩⟩ (by simpa using rows_one [(x.1, A6, c6)]) (by omega) (by omega) ?_
        intro v4 w4 own4 hg4 hb4 _
        have B4 := Lib.hid (B1.out.trans ((hbd.out.mono hz).trans hb4))
        have F4 := Lib.hid (show ∀ o ∈ os ++ [(x.1, A6, c6)], OwnF w4 w.heap.size o from fun o ho => by
          rcases List.mem_append.1 ho with ho | ho
          · exact own_kept_ne (F2.out o ho) O2.out (by decide) hg4
          · rw [List.mem_singleton.1 ho]; exact own_kept_ne O6.out O2.out (by decide) hg4)
        have R4 := Lib.hid (show rowsOf (os ++ [(x.1, A6, c6)]) = (rowsOf l).take 3 by rw [HXE.out]; exact rows_take hkl HR.out A6 c6)
        have O4 := Lib.hid (show w4.ownsRow w.heap.size 77 12 v4 (3) ((os ++ [(x.1, A6, c6)]).flatMap LR.cells) by simpa using own4)
        clear own4 hg4 hb4 HX PT HC O6 F2 O2 O Fz hbd
        go_wp2_with (fail)
        go_roundw
        case rel => exact ⟨3, os ++ [(x.1, A6, c6)], _, rfl, by omega, by rw [List.length_append, HOS.out]; rfl, rfl, R4.out, O4.out, F4.out, B4.out⟩
        case measure => simp [intOf]
    · obtain ⟨x, hx⟩ : ∃ x, x = l[3]'(by rw [HL.out.1]; decide) := ⟨_, rfl⟩
      have hkl : 3 < l.length := by rw [HL.out.1]; decide
      have HX := Lib.hid (show InN wr x.2.1 x.2.2 x.1.a.f from (HL.out.2.2 x (by rw [hx]; exact List.getElem_mem hkl)).1.below B1.out)
      have hxl := HF.out x (by rw [hx]; exact List.getElem_mem hkl)
      have PT := Lib.hid (show ∀ W2, Below wr.heap.size wr W2 → W2.cell? ⟨g, 36, none⟩ = some (.int .i64 x.1.last) ∧ W2.cell? ⟨g, 37, none⟩ = some (.int .i64 x.1.ep) ∧ ∀ j u, (x.1.a.arr x.2.1 x.2.2)[j]? = some u → W2.cell? ⟨g, 38 + j, none⟩ = some u from fun W2 hb2 => by
        have hB := (HL.out.2.1.below (B1.out.trans (hb2.mono hz)) hgl)
        refine ⟨hB.cell (by rw [hx]; exact lg_get hkl 0 (by omega)), hB.cell (by rw [hx]; exact lg_get hkl 1 (by omega)), fun j u hu => lg_part hkl hB j u (by rw [← hx]; exact hu)⟩)
      have HXE := Lib.hid hx
      clear hx
      go_wp2_with (fail)
      refine wp_region_relT [Sp.eq (.slice A9 3 c9), Sp.eq (.pointer (some ⟨g, 36, none⟩)), Sp.eq (.pointer (some ⟨g, 36, none⟩)), Sp.eq (.pointer (some ⟨g, 36, none⟩)), Sp.eq (.int .i64 x.1.last), Sp.eq (.pointer (some ⟨g, 36, none⟩)), Sp.eq (.pointer (some ⟨g, 36, none⟩)), Sp.eq (.pointer (some ⟨g, 37, none⟩)), Sp.eq (.int .i64 x.1.ep), Sp.eq (.pointer (some ⟨g, 36, none⟩)), Sp.eq (.pointer (some ⟨g, 36, none⟩)), Sp.eq (.pointer (some ⟨g, 38, none⟩)), Sp.eq (.agg (x.1.a.arr x.2.1 x.2.2)), Sp.ownRep w.heap.size x.1.a, Sp.ownLR w.heap.size x.1, Sp.laidLR w.heap.size x.1] 35 16 (by kernel_rfl) (by decide) (by kernel_rfl) (by kernel_rfl) (by kernel_rfl) (by kernel_rfl) rfl rfl ?_ ?_
      · refine ⟨?_, ?_, ?_, ?_, ?_, ?_, ?_, ?_, ?_, ?_, ?_, ?_, ?_, ?_, ?_, ?_, trivial⟩
        all_goals (intro u W2 hb2 hd; simp [Deps, Region.binds, Sp.eq_holds, Sp.ownRep_holds, Sp.ownLR_holds] at hd; simp only [putDeps, dstOf, Region.binds])
        case refine_1 =>
          go_wp2_with (fail); exact RelEnd.mk rfl (Below.refl _ _) rfl
        case refine_2 =>
          go_wp2_with (fail); exact RelEnd.mk rfl (Below.refl _ _) rfl
        case refine_3 =>
          go_wp2_with (fail); exact RelEnd.mk rfl (Below.refl _ _) rfl
        case refine_4 =>
          go_wp2_with (fail); exact RelEnd.mk rfl (Below.refl _ _) rfl
        case refine_5 =>
          have q : World.cell? W2 ⟨g, 36, none⟩ = some (.int .i64 x.1.last) := (PT.out W2 hb2).1
          go_wp2_with (fail); exact RelEnd.mk rfl (Below.refl _ _) rfl
        case refine_6 =>
          go_wp2_with (fail); exact RelEnd.mk rfl (Below.refl _ _) rfl
        case refine_7 =>
          go_wp2_with (fail); exact RelEnd.mk rfl (Below.refl _ _) rfl
        case refine_8 =>
          go_wp2_with (fail); exact RelEnd.mk rfl (Below.refl _ _) rfl
        case refine_9 =>
          go_wp2_with (go_at_call 41; refine (c_atomic_Load g 37 x.1.ep _ (PT.out _ hb2).2.1).mono ?_; rintro e3 W3 ⟨rfl, rfl⟩)
          exact RelEnd.mk rfl (Below.refl _ _) rfl
        case refine_10 =>
          go_wp2_with (fail); exact RelEnd.mk rfl (Below.refl _ _) rfl
        case refine_11 =>
          go_wp2_with (fail); exact RelEnd.mk rfl (Below.refl _ _) rfl
        case refine_12 =>
          go_wp2_with (fail); exact RelEnd.mk rfl (Below.refl _ _) rfl
        case refine_13 =>
          go_wp2_with (with_reducible refine stop_loadG 47 _ rfl ?_)
          refine Stop.mk (wpList_loadAtG (by simp [Region.wanted]) _ _ rfl g 38 rfl (x.1.a.arr x.2.1 x.2.2) ((PT.out W2 hb2).2.2) strRp (rfl) ?_)
          go_wp2_with (fail); exact RelEnd.mk rfl (Below.refl _ _) rfl
        case refine_14 =>
          go_wp2_with (go_at_call 40; refine (c_ledger_own x.1.a x.2.1 x.2.2 _ (HX.out.below hb2)).mono ?_; rintro e3 W3 ⟨A6, c6, rfl, own6, hb6⟩)
          exact RelEnd.mk rfl hb6 ⟨A6, c6, rfl, own_base own6 (Nat.le_trans hz hb2.size)⟩
        case refine_15 =>
          obtain ⟨e20, e24, e29⟩ := hd
          obtain ⟨A6, c6, e6, own6⟩ := e29
          go_wp2_with (fail)
          exact RelEnd.mk rfl (Below.refl _ _) ⟨A6, c6, rfl, own6⟩
        case refine_16 =>
          obtain ⟨A6, c6, e6, own6⟩ := hd
          simp only [LR.cells, List.cons_append, List.nil_append] at e6
          go_wp2_with (fail)
          refine RelEnd.mk rfl ((Below.refl _ _).alloc (Nat.le_refl _) _) ?_
          exact ⟨A6, c6, W2.heap.size, rfl, by simp, fun j u hu => by rw [World.cell?_alloc_new, List.getElem?_toArray]; exact hu, own_below own6 ((Below.refl _ _).alloc (Nat.le_refl _) _)⟩
      · intro u W2 hb2 hold
        simp only [RelHold, Sp.eq_holds, Sp.laidLR_holds, Nat.reduceAdd] at hold
        obtain ⟨e0, -, -, -, -, -, -, -, -, -, -, -, -, -, -, ⟨A6, c6, b6, e15, hb6, hc6, own6⟩, -⟩ := hold
        simp only [List.drop, List.take, putAll, Act.put, Nat.reduceAdd, List.setIfInBounds_toArray, List.set_cons_zero, List.set_cons_succ]
        rw [e0, e15]
        have hbd := Lib.hid hb2
        have O2 := Lib.hid (own_below O.out hbd.out)
        have F2 := Lib.hid (fun o ho => own_below (Fz.out o ho) hbd.out)
        have HC := Lib.hid hc6
        have O6 := Lib.hid own6
        have hz2 := hbd.out.size
        clear e0 e15 hc6 own6 hb2
        refine wpList_app _ rfl _ _ elemRow rfl w.heap.size (.slice A9 3 c9) 3 _ rfl O2.out (some ⟨b6, 0, none⟩) 1 1 (LR.cells (x.1, A6, c6)) rfl ⟨rfl, fun _ => ⟨_, rfl, fun j u hu => by rw [add_lit]; exact HC.out j u hu⟩⟩ (by simpa using rows_one [(x.1, A6, c6)]) (by omega) (by omega) ?_
        intro v4 w4 own4 hg4 hb4 _
        have B4 := Lib.hid (B1.out.trans ((hbd.out.mono hz).trans hb4))
        have F4 := Lib.hid (show ∀ o ∈ os ++ [(x.1, A6, c6)], OwnF w4 w.heap.size o from fun o ho => by
          rcases List.mem_append.1 ho with ho | ho
          · exact own_kept_ne (F2.out o ho) O2.out (by decide) hg4
          · rw [List.mem_singleton.1 ho]; exact own_kept_ne O6.out O2.out (by decide) hg4)
        have R4 := Lib.hid (show rowsOf (os ++ [(x.1, A6, c6)]) = (rowsOf l).take 4 by rw [HXE.out]; exact rows_take hkl HR.out A6 c6)
        have O4 := Lib.hid (show w4.ownsRow w.heap.size 77 12 v4 (4) ((os ++ [(x.1, A6, c6)]).flatMap LR.cells) by simpa using own4)
        clear own4 hg4 hb4 HX PT HC O6 F2 O2 O Fz hbd
        go_wp2_with (fail)
        go_roundw
        case rel => exact ⟨4, os ++ [(x.1, A6, c6)], _, rfl, by omega, by rw [List.length_append, HOS.out]; rfl, rfl, R4.out, O4.out, F4.out, B4.out⟩
        case measure => simp [intOf]
    · obtain ⟨x, hx⟩ : ∃ x, x = l[4]'(by rw [HL.out.1]; decide) := ⟨_, rfl⟩
      have hkl : 4 < l.length := by rw [HL.out.1]; decide
      have HX := Lib.hid (show InN wr x.2.1 x.2.2 x.1.a.f from (HL.out.2.2 x (by rw [hx]; exact List.getElem_mem hkl)).1.below B1.out)
      have hxl := HF.out x (by rw [hx]; exact List.getElem_mem hkl)
      have PT := Lib.hid (show ∀ W2, Below wr.heap.size wr W2 → W2.cell? ⟨g, 48, none⟩ = some (.int .i64 x.1.last) ∧ W2.cell? ⟨g, 49, none⟩ = some (.int .i64 x.1.ep) ∧ ∀ j u, (x.1.a.arr x.2.1 x.2.2)[j]? = some u → W2.cell? ⟨g, 50 + j, none⟩ = some u from fun W2 hb2 => by
        have hB := (HL.out.2.1.below (B1.out.trans (hb2.mono hz)) hgl)
        refine ⟨hB.cell (by rw [hx]; exact lg_get hkl 0 (by omega)), hB.cell (by rw [hx]; exact lg_get hkl 1 (by omega)), fun j u hu => lg_part hkl hB j u (by rw [← hx]; exact hu)⟩)
      have HXE := Lib.hid hx
      clear hx
      go_wp2_with (fail)
      refine wp_region_relT [Sp.eq (.slice A9 4 c9), Sp.eq (.pointer (some ⟨g, 48, none⟩)), Sp.eq (.pointer (some ⟨g, 48, none⟩)), Sp.eq (.pointer (some ⟨g, 48, none⟩)), Sp.eq (.int .i64 x.1.last), Sp.eq (.pointer (some ⟨g, 48, none⟩)), Sp.eq (.pointer (some ⟨g, 48, none⟩)), Sp.eq (.pointer (some ⟨g, 49, none⟩)), Sp.eq (.int .i64 x.1.ep), Sp.eq (.pointer (some ⟨g, 48, none⟩)), Sp.eq (.pointer (some ⟨g, 48, none⟩)), Sp.eq (.pointer (some ⟨g, 50, none⟩)), Sp.eq (.agg (x.1.a.arr x.2.1 x.2.2)), Sp.ownRep w.heap.size x.1.a, Sp.ownLR w.heap.size x.1, Sp.laidLR w.heap.size x.1] 35 16 (by kernel_rfl) (by decide) (by kernel_rfl) (by kernel_rfl) (by kernel_rfl) (by kernel_rfl) rfl rfl ?_ ?_
      · refine ⟨?_, ?_, ?_, ?_, ?_, ?_, ?_, ?_, ?_, ?_, ?_, ?_, ?_, ?_, ?_, ?_, trivial⟩
        all_goals (intro u W2 hb2 hd; simp [Deps, Region.binds, Sp.eq_holds, Sp.ownRep_holds, Sp.ownLR_holds] at hd; simp only [putDeps, dstOf, Region.binds])
        case refine_1 =>
          go_wp2_with (fail); exact RelEnd.mk rfl (Below.refl _ _) rfl
        case refine_2 =>
          go_wp2_with (fail); exact RelEnd.mk rfl (Below.refl _ _) rfl
        case refine_3 =>
          go_wp2_with (fail); exact RelEnd.mk rfl (Below.refl _ _) rfl
        case refine_4 =>
          go_wp2_with (fail); exact RelEnd.mk rfl (Below.refl _ _) rfl
        case refine_5 =>
          have q : World.cell? W2 ⟨g, 48, none⟩ = some (.int .i64 x.1.last) := (PT.out W2 hb2).1
          go_wp2_with (fail); exact RelEnd.mk rfl (Below.refl _ _) rfl
        case refine_6 =>
          go_wp2_with (fail); exact RelEnd.mk rfl (Below.refl _ _) rfl
        case refine_7 =>
          go_wp2_with (fail); exact RelEnd.mk rfl (Below.refl _ _) rfl
        case refine_8 =>
          go_wp2_with (fail); exact RelEnd.mk rfl (Below.refl _ _) rfl
        case refine_9 =>
          go_wp2_with (go_at_call 41; refine (c_atomic_Load g 49 x.1.ep _ (PT.out _ hb2).2.1).mono ?_; rintro e3 W3 ⟨rfl, rfl⟩)
          exact RelEnd.mk rfl (Below.refl _ _) rfl
        case refine_10 =>
          go_wp2_with (fail); exact RelEnd.mk rfl (Below.refl _ _) rfl
        case refine_11 =>
          go_wp2_with (fail); exact RelEnd.mk rfl (Below.refl _ _) rfl
        case refine_12 =>
          go_wp2_with (fail); exact RelEnd.mk rfl (Below.refl _ _) rfl
        case refine_13 =>
          go_wp2_with (with_reducible refine stop_loadG 47 _ rfl ?_)
          refine Stop.mk (wpList_loadAtG (by simp [Region.wanted]) _ _ rfl g 50 rfl (x.1.a.arr x.2.1 x.2.2) ((PT.out W2 hb2).2.2) strRp (rfl) ?_)
          go_wp2_with (fail); exact RelEnd.mk rfl (Below.refl _ _) rfl
        case refine_14 =>
          go_wp2_with (go_at_call 40; refine (c_ledger_own x.1.a x.2.1 x.2.2 _ (HX.out.below hb2)).mono ?_; rintro e3 W3 ⟨A6, c6, rfl, own6, hb6⟩)
          exact RelEnd.mk rfl hb6 ⟨A6, c6, rfl, own_base own6 (Nat.le_trans hz hb2.size)⟩
        case refine_15 =>
          obtain ⟨e20, e24, e29⟩ := hd
          obtain ⟨A6, c6, e6, own6⟩ := e29
          go_wp2_with (fail)
          exact RelEnd.mk rfl (Below.refl _ _) ⟨A6, c6, rfl, own6⟩
        case refine_16 =>
          obtain ⟨A6, c6, e6, own6⟩ := hd
          simp only [LR.cells, List.cons_append, List.nil_append] at e6
          go_wp2_with (fail)
          refine RelEnd.mk rfl ((Below.refl _ _).alloc (Nat.le_refl _) _) ?_
          exact ⟨A6, c6, W2.heap.size, rfl, by simp, fun j u hu => by rw [World.cell?_alloc_new, List.getElem?_toArray]; exact hu, own_below own6 ((Below.refl _ _).alloc (Nat.le_refl _) _)⟩
      · intro u W2 hb2 hold
        simp only [RelHold, Sp.eq_holds, Sp.laidLR_holds, Nat.reduceAdd] at hold
        obtain ⟨e0, -, -, -, -, -, -, -, -, -, -, -, -, -, -, ⟨A6, c6, b6, e15, hb6, hc6, own6⟩, -⟩ := hold
        simp only [List.drop, List.take, putAll, Act.put, Nat.reduceAdd, List.setIfInBounds_toArray, List.set_cons_zero, List.set_cons_succ]
        rw [e0, e15]
        have hbd := Lib.hid hb2
        have O2 := Lib.hid (own_below O.out hbd.out)
        have F2 := Lib.hid (fun o ho => own_below (Fz.out o ho) hbd.out)
        have HC := Lib.hid hc6
        have O6 := Lib.hid own6
        have hz2 := hbd.out.size
        clear e0 e15 hc6 own6 hb2
        refine wpList_app _ rfl _ _ elemRow rfl w.heap.size (.slice A9 4 c9) 4 _ rfl O2.out (some ⟨b6, 0, none⟩) 1 1 (LR.cells (x.1, A6, c6)) rfl ⟨rfl, fun _ => ⟨_, rfl, fun j u hu => by rw [add_lit]; exact HC.out j u hu⟩⟩ (by simpa using rows_one [(x.1, A6, c6)]) (by omega) (by omega) ?_
        intro v4 w4 own4 hg4 hb4 _
        have B4 := Lib.hid (B1.out.trans ((hbd.out.mono hz).trans hb4))
        have F4 := Lib.hid (show ∀ o ∈ os ++ [(x.1, A6, c6)], OwnF w4 w.heap.size o from fun o ho => by
          rcases List.mem_append.1 ho with ho | ho
          · exact own_kept_ne (F2.out o ho) O2.out (by decide) hg4
          · rw [List.mem_singleton.1 ho]; exact own_kept_ne O6.out O2.out (by decide) hg4)
        have R4 := Lib.hid (show rowsOf (os ++ [(x.1, A6, c6)]) = (rowsOf l).take 5 by rw [HXE.out]; exact rows_take hkl HR.out A6 c6)
        have O4 := Lib.hid (show w4.ownsRow w.heap.size 77 12 v4 (5) ((os ++ [(x.1, A6, c6)]).flatMap LR.cells) by simpa using own4)
        clear own4 hg4 hb4 HX PT HC O6 F2 O2 O Fz hbd
        go_wp2_with (fail)
        go_roundw
        case rel => exact ⟨5, os ++ [(x.1, A6, c6)], _, rfl, by omega, by rw [List.length_append, HOS.out]; rfl, rfl, R4.out, O4.out, F4.out, B4.out⟩
        case measure => simp [intOf]
    · obtain ⟨x, hx⟩ : ∃ x, x = l[5]'(by rw [HL.out.1]; decide) := ⟨_, rfl⟩
      have hkl : 5 < l.length := by rw [HL.out.1]; decide
      have HX := Lib.hid (show InN wr x.2.1 x.2.2 x.1.a.f from (HL.out.2.2 x (by rw [hx]; exact List.getElem_mem hkl)).1.below B1.out)
      have hxl := HF.out x (by rw [hx]; exact List.getElem_mem hkl)
      have PT := Lib.hid (show ∀ W2, Below wr.heap.size wr W2 → W2.cell? ⟨g, 60, none⟩ = some (.int .i64 x.1.last) ∧ W2.cell? ⟨g, 61, none⟩ = some (.int .i64 x.1.ep) ∧ ∀ j u, (x.1.a.arr x.2.1 x.2.2)[j]? = some u → W2.cell? ⟨g, 62 + j, none⟩ = some u from fun W2 hb2 => by
        have hB := (HL.out.2.1.below (B1.out.trans (hb2.mono hz)) hgl)
        refine ⟨hB.cell (by rw [hx]; exact lg_get hkl 0 (by omega)), hB.cell (by rw [hx]; exact lg_get hkl 1 (by omega)), fun j u hu => lg_part hkl hB j u (by rw [← hx]; exact hu)⟩)
      have HXE := Lib.hid hx
      clear hx
      go_wp2_with (fail)
      refine wp_region_relT [Sp.eq (.slice A9 5 c9), Sp.eq (.pointer (some ⟨g, 60, none⟩)), Sp.eq (.pointer (some ⟨g, 60, none⟩)), Sp.eq (.pointer (some ⟨g, 60, none⟩)), Sp.eq (.int .i64 x.1.last), Sp.eq (.pointer (some ⟨g, 60, none⟩)), Sp.eq (.pointer (some ⟨g, 60, none⟩)), Sp.eq (.pointer (some ⟨g, 61, none⟩)), Sp.eq (.int .i64 x.1.ep), Sp.eq (.pointer (some ⟨g, 60, none⟩)), Sp.eq (.pointer (some ⟨g, 60, none⟩)), Sp.eq (.pointer (some ⟨g, 62, none⟩)), Sp.eq (.agg (x.1.a.arr x.2.1 x.2.2)), Sp.ownRep w.heap.size x.1.a, Sp.ownLR w.heap.size x.1, Sp.laidLR w.heap.size x.1] 35 16 (by kernel_rfl) (by decide) (by kernel_rfl) (by kernel_rfl) (by kernel_rfl) (by kernel_rfl) rfl rfl ?_ ?_
      · refine ⟨?_, ?_, ?_, ?_, ?_, ?_, ?_, ?_, ?_, ?_, ?_, ?_, ?_, ?_, ?_, ?_, trivial⟩
        all_goals (intro u W2 hb2 hd; simp [Deps, Region.binds, Sp.eq_holds, Sp.ownRep_holds, Sp.ownLR_holds] at hd; simp only [putDeps, dstOf, Region.binds])
        case refine_1 =>
          go_wp2_with (fail); exact RelEnd.mk rfl (Below.refl _ _) rfl
        case refine_2 =>
          go_wp2_with (fail); exact RelEnd.mk rfl (Below.refl _ _) rfl
        case refine_3 =>
          go_wp2_with (fail); exact RelEnd.mk rfl (Below.refl _ _) rfl
        case refine_4 =>
          go_wp2_with (fail); exact RelEnd.mk rfl (Below.refl _ _) rfl
        case refine_5 =>
          have q : World.cell? W2 ⟨g, 60, none⟩ = some (.int .i64 x.1.last) := (PT.out W2 hb2).1
          go_wp2_with (fail); exact RelEnd.mk rfl (Below.refl _ _) rfl
        case refine_6 =>
          go_wp2_with (fail); exact RelEnd.mk rfl (Below.refl _ _) rfl
        case refine_7 =>
          go_wp2_with (fail); exact RelEnd.mk rfl (Below.refl _ _) rfl
        case refine_8 =>
          go_wp2_with (fail); exact RelEnd.mk rfl (Below.refl _ _) rfl
        case refine_9 =>
          go_wp2_with (go_at_call 41; refine (c_atomic_Load g 61 x.1.ep _ (PT.out _ hb2).2.1).mono ?_; rintro e3 W3 ⟨rfl, rfl⟩)
          exact RelEnd.mk rfl (Below.refl _ _) rfl
        case refine_10 =>
          go_wp2_with (fail); exact RelEnd.mk rfl (Below.refl _ _) rfl
        case refine_11 =>
          go_wp2_with (fail); exact RelEnd.mk rfl (Below.refl _ _) rfl
        case refine_12 =>
          go_wp2_with (fail); exact RelEnd.mk rfl (Below.refl _ _) rfl
        case refine_13 =>
          go_wp2_with (with_reducible refine stop_loadG 47 _ rfl ?_)
          refine Stop.mk (wpList_loadAtG (by simp [Region.wanted]) _ _ rfl g 62 rfl (x.1.a.arr x.2.1 x.2.2) ((PT.out W2 hb2).2.2) strRp (rfl) ?_)
          go_wp2_with (fail); exact RelEnd.mk rfl (Below.refl _ _) rfl
        case refine_14 =>
          go_wp2_with (go_at_call 40; refine (c_ledger_own x.1.a x.2.1 x.2.2 _ (HX.out.below hb2)).mono ?_; rintro e3 W3 ⟨A6, c6, rfl, own6, hb6⟩)
          exact RelEnd.mk rfl hb6 ⟨A6, c6, rfl, own_base own6 (Nat.le_trans hz hb2.size)⟩
        case refine_15 =>
          obtain ⟨e20, e24, e29⟩ := hd
          obtain ⟨A6, c6, e6, own6⟩ := e29
          go_wp2_with (fail)
          exact RelEnd.mk rfl (Below.refl _ _) ⟨A6, c6, rfl, own6⟩
        case refine_16 =>
          obtain ⟨A6, c6, e6, own6⟩ := hd
          simp only [LR.cells, List.cons_append, List.nil_append] at e6
          go_wp2_with (fail)
          refine RelEnd.mk rfl ((Below.refl _ _).alloc (Nat.le_refl _) _) ?_
          exact ⟨A6, c6, W2.heap.size, rfl, by simp, fun j u hu => by rw [World.cell?_alloc_new, List.getElem?_toArray]; exact hu, own_below own6 ((Below.refl _ _).alloc (Nat.le_refl _) _)⟩
      · intro u W2 hb2 hold
        simp only [RelHold, Sp.eq_holds, Sp.laidLR_holds, Nat.reduceAdd] at hold
        obtain ⟨e0, -, -, -, -, -, -, -, -, -, -, -, -, -, -, ⟨A6, c6, b6, e15, hb6, hc6, own6⟩, -⟩ := hold
        simp only [List.drop, List.take, putAll, Act.put, Nat.reduceAdd, List.setIfInBounds_toArray, List.set_cons_zero, List.set_cons_succ]
        rw [e0, e15]
        have hbd := Lib.hid hb2
        have O2 := Lib.hid (own_below O.out hbd.out)
        have F2 := Lib.hid (fun o ho => own_below (Fz.out o ho) hbd.out)
        have HC := Lib.hid hc6
        have O6 := Lib.hid own6
        have hz2 := hbd.out.size
        clear e0 e15 hc6 own6 hb2
        refine wpList_app _ rfl _ _ elemRow rfl w.heap.size (.slice A9 5 c9) 5 _ rfl O2.out (some ⟨b6, 0, none⟩) 1 1 (LR.cells (x.1, A6, c6)) rfl ⟨rfl, fun _ => ⟨_, rfl, fun j u hu => by rw [add_lit]; exact HC.out j u hu⟩⟩ (by simpa using rows_one [(x.1, A6, c6)]) (by omega) (by omega) ?_
        intro v4 w4 own4 hg4 hb4 _
        have B4 := Lib.hid (B1.out.trans ((hbd.out.mono hz).trans hb4))
        have F4 := Lib.hid (show ∀ o ∈ os ++ [(x.1, A6, c6)], OwnF w4 w.heap.size o from fun o ho => by
          rcases List.mem_append.1 ho with ho | ho
          · exact own_kept_ne (F2.out o ho) O2.out (by decide) hg4
          · rw [List.mem_singleton.1 ho]; exact own_kept_ne O6.out O2.out (by decide) hg4)
        have R4 := Lib.hid (show rowsOf (os ++ [(x.1, A6, c6)]) = (rowsOf l).take 6 by rw [HXE.out]; exact rows_take hkl HR.out A6 c6)
        have O4 := Lib.hid (show w4.ownsRow w.heap.size 77 12 v4 (6) ((os ++ [(x.1, A6, c6)]).flatMap LR.cells) by simpa using own4)
        clear own4 hg4 hb4 HX PT HC O6 F2 O2 O Fz hbd
        go_wp2_with (fail)
        go_roundw
        case rel => exact ⟨6, os ++ [(x.1, A6, c6)], _, rfl, by omega, by rw [List.length_append, HOS.out]; rfl, rfl, R4.out, O4.out, F4.out, B4.out⟩
        case measure => simp [intOf]
    · skip
      go_wp2_with (fail)
      go_ret
      refine ⟨os, by rw [HR.out, List.take_of_length_le (by unfold rowsOf; rw [List.length_map, HL.out.1]; omega)], ⟨_, rfl, ?_, B1.out⟩, Fz.out⟩
      have := O.out
      rw [HOS.out]
      exact this
end Go.Proofs.Ytjhndilflcigiaa
