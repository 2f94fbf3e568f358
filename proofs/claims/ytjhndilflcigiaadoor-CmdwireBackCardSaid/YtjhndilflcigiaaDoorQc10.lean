/-
  Lemmas (walks and plain laws), in one text.
-/
import Derived.Test.YtjhndilflcigiaaDoorQc9
import Derived.Test.YtjhndilflcigiaaDoorRows
import Derived.WalkKit
import Derived.WalkSpells
import Derived.WalkLawsBesides
import Derived.Lib.Hide
import Derived.Deep.QuietTactic
import Derived.BigQuiet
import Derived.Maps.AppendAt
import Derived.WalkSmall
import Derived.ProofKit
import Derived.OpenShut
import Derived.JoinedCond
import Derived.Deep.Slices
import Derived.Deep.Fields
import Derived.Carry
import Derived.Deep.AppendSrc
import Derived.Lib.AppendStr
import Derived.Laws.BytesArg
import Derived.Test.YtjhndilflcigiaaDoorProg
import Derived.Shelf.Spec.TrailingZeros
import Derived.RangeFuncNested
import Derived.RangeFuncBound
import Derived.RangeFuncCalls
import Derived.RangeFuncLeaves
import Derived.Shelf.Abstract
import Derived.Shelf.RegionOpen
import Derived.OwnWalkIn
import Derived.TacticsInMore
import Derived.LoopNIn
import Derived.LoopIn
import Derived.Test.YtjhndilflcigiaaDoorTie
import Derived.Lib.LaidTab
import Derived.LaidMore
import Derived.SevenTiedAt
import Derived.Test.YtjhndilflcigiaaDoorCards
import Derived.Laws.Tables
import Derived.Laws.Rows
import Derived.ChangeKeysEq
import Derived.Laws.StructEq
import Derived.Deep.CutBlock
import Derived.Deep.DeepCutAuto
import Derived.Laws.CopyOwn
import Derived.Outline
import Derived.IntWalk
import Derived.Lib.EndianBits
import Derived.StillTail
import Derived.Lib.AppendZeros
import Derived.Deep.Quiet
import Derived.Maps.Own
import Derived.WalkMore
namespace Go.Proofs.YtjhndilflcigiaaDoor
open Go.RowKit

set_option maxHeartbeats 400000 in
theorem c_pred_Parts (op : Int) (w : World) : Calls Tryd.prog 175 #[.int .i64 op] w (RetV w (.int .i64 (parts op))) := by
  go_enter Tryd.func175, Tryd.ntmps175
  go_wp2
  all_goals (go_ret; refine RetV.int ?_ (by repeat (first | exact Below.refl _ _ | refine Below.drew ?_ | refine Below.alloc ?_ (by first | omega | (simp; done) | (simp; omega)) _ | refine Below.setCell ?_ (by first | omega | (simp; done) | (simp; omega)) _ | refine Below.trans ?_ (Below.mono (by assumption) (by first | omega | (simp; done) | (simp; omega))))); simp_all [parts])
set_option maxHeartbeats 400000 in
theorem c_ref10_Parts (op : Int) (w : World) : Calls Tryd.prog 173 #[.int .i64 op] w (RetV w (.int .i64 (parts op))) := by
  go_enter Tryd.func173, Tryd.ntmps173
  go_wp2
  all_goals (go_ret; refine RetV.int ?_ (by repeat (first | exact Below.refl _ _ | refine Below.drew ?_ | refine Below.alloc ?_ (by first | omega | (simp; done) | (simp; omega)) _ | refine Below.setCell ?_ (by first | omega | (simp; done) | (simp; omega)) _ | refine Below.trans ?_ (Below.mono (by assumption) (by first | omega | (simp; done) | (simp; omega))))); simp_all [parts])
/-- What the switch of pred.Node comes to. -/
def nodeClass (op below kinds : Int) : Prop :=
  ((op = 1 ∨ op = 2 ∨ op = 10 ∨ op = 11 ∨ op = 12) ∧ below = 1 ∧ kinds = 1) ∨ ((op = 3 ∨ op = 4) ∧ below = 16 ∧ kinds = 1) ∨ (op = 5 ∧ below = 8 ∧ kinds = 1) ∨
  ((op = 6 ∨ op = 7 ∨ op = 8) ∧ below = 8 ∧ kinds = 6) ∨ (op = 9 ∧ below = 8 ∧ kinds = 4)
def kindIn (kinds kind : Int) : Bool := if kinds = 1 then decide (kind = 0) else if kinds = 6 then decide (kind = 1) || decide (kind = 2) else decide (kind = 2)
theorem node_ok_of {x : Node} {b k : Int} (h : nodeClass x.op b k) : x.ok = (decide (0 ≤ x.n) && decide (x.n < b) && x.v.ok && kindIn k x.v.kind) := by
  have hn : ∀ y : Val, (y.ok && decide (y.kind = 0)) = y.none := fun y => by
    rcases Val.ok_cases y with ⟨h1, h2⟩ | ⟨h1, h2, h3⟩ | ⟨h1, h2, h3⟩ | ⟨h1, h2, h3⟩ <;> simp [*]
  have hm : ∀ y : Val, (y.ok && (decide (y.kind = 1) || decide (y.kind = 2))) = (y.ok && !y.none) := fun y => by
    rcases Val.ok_cases y with ⟨h1, h2⟩ | ⟨h1, h2, h3⟩ | ⟨h1, h2, h3⟩ | ⟨h1, h2, h3⟩ <;> simp [*]
  unfold Node.ok
  rcases h with ⟨h, rfl, rfl⟩ | ⟨h, rfl, rfl⟩ | ⟨h, rfl, rfl⟩ | ⟨h, rfl, rfl⟩ | ⟨h, rfl, rfl⟩
  · rw [if_pos h]
    simp only [kindIn, if_true, Bool.and_assoc, hn]
    by_cases h0 : x.n = 0
    · simp [h0]
    · by_cases h1 : 0 ≤ x.n
      · simp [h0, h1, show ¬ x.n < 1 by omega]
      · simp [h0, h1]
  · rw [if_neg (by omega), if_pos h]
    simp only [kindIn, if_true, Bool.and_assoc, hn]
  · rw [if_neg (by omega), if_neg (by omega), if_pos h]
    simp only [kindIn, if_true, Bool.and_assoc, hn]
  · rw [if_neg (by omega), if_neg (by omega), if_neg (by omega), if_pos h]
    simp only [kindIn, if_true, Bool.and_assoc, hm, show ¬ (6 : Int) = 1 by omega, if_false]
  · rw [if_neg (by omega), if_neg (by omega), if_neg (by omega), if_neg (by omega), if_pos h]
    simp only [kindIn, Bool.and_assoc, show ¬ (4 : Int) = 1 by omega, show ¬ (4 : Int) = 6 by omega, if_false]
set_option maxRecDepth 100000 in
set_option maxHeartbeats 1000000 in
theorem c_pred_Node (x : Node) (w : World) (hs : x.v.s.length ≤ 9223372036854775807) : Calls Tryd.prog 147 #[x.val] w (RetV w (.bool x.ok)) := by
  unfold Node.val
  go_enter Tryd.func147, Tryd.ntmps147
  go_upto_block 0 with (fail)
  go_cut [3, 4] from 5 to 24 (fun b k w1 => ∃ bl kn : Int, b = .int .i64 bl ∧ k = .int .i64 kn ∧ 1 ≤ bl ∧ bl ≤ 16 ∧ (kn = 1 ∨ kn = 6 ∨ kn = 4) ∧ Hid (nodeClass x.op bl kn) ∧
    w1 = w.alloc (.cells #[.int .i64 x.op, .int .i64 x.n, .int .i64 x.v.kind, .int .i64 x.v.n, .string (str x.v.s)] 132))
  case first =>
    go_wp2_with (fail)
    all_goals first
      | (go_meet
         case rel =>
           refine ⟨_, _, rfl, rfl, by omega, by omega, by omega, ?_, rfl⟩
           show nodeClass _ _ _
           unfold nodeClass
           simp_all)
      | (go_ret; refine RetV.bool ?_ (by repeat (first | exact Below.refl _ _ | refine Below.drew ?_ | refine Below.alloc ?_ (by first | omega | (simp; done) | (simp; omega)) _ | refine Below.setCell ?_ (by first | omega | (simp; done) | (simp; omega)) _ | refine Below.trans ?_ (Below.mono (by assumption) (by first | omega | (simp; done) | (simp; omega))))); simp_all [Node.ok])
  case rest =>
    obtain ⟨bl, kn, rfl, rfl, hbl, hbl2, hkn, hcls, rfl⟩ := hcut
    go_wp2_with (go_at_call 143; refine (c_value_Check x.v _ hs).mono ?_; rintro e w1 ⟨rfl, hb1⟩; have q1 := fun o => hb1.cell (p := ⟨w.heap.size, o, none⟩) (by simp); rcases Val.ok_cases x.v with ⟨hok, hno⟩ | ⟨hok, hno, hk⟩ | ⟨hok, hno, hk⟩ | ⟨hok, hno, hk⟩ <;> rcases hkn with h1 | h1 | h1)
    all_goals (go_ret; refine RetV.bool ?_ (by repeat (first | exact Below.refl _ _ | refine Below.drew ?_ | refine Below.alloc ?_ (by first | omega | (simp; done) | (simp; omega)) _ | refine Below.setCell ?_ (by first | omega | (simp; done) | (simp; omega)) _ | refine Below.trans ?_ (Below.mono (by assumption) (by first | omega | (simp; done) | (simp; omega))))); rw [node_ok_of hcls.out]; (try clear hb1 q1); (simp_all [kindIn] <;> first | omega | (intros; omega) | decide | grind))
set_option maxRecDepth 100000 in
set_option maxHeartbeats 1000000 in
theorem c_ref10_Node (x : Node) (w : World) (hs : x.v.s.length ≤ 9223372036854775807) : Calls Tryd.prog 140 #[x.val] w (RetV w (.bool x.ok)) := by
  unfold Node.val
  go_enter Tryd.func140, Tryd.ntmps140
  go_upto_region 1 with (fail)
  go_cut [0, 3] from 5 to 84 (fun _ a w1 => a = .bool x.v.none ∧ w1 = w.alloc (.cells #[.int .i64 x.op, .int .i64 x.n, .int .i64 x.v.kind, .int .i64 x.v.n, .string (str x.v.s)] 132))
  case first =>
    go_wp2_with (fail)
    all_goals (go_meet; case rel => refine ⟨?_, ?_⟩ <;> simp_all [Val.none])
  case rest =>
    obtain ⟨rfl, rfl⟩ := hcut
    go_upto_region 2 with (fail)
    go_cut [4] from 5 to 84 (fun a w1 => a = .bool (decide (0 ≤ x.n) && decide (x.n < 8) && x.v.ok) ∧ Below w.heap.size w w1 ∧ w.heap.size < w1.heap.size ∧ w1.cell? ⟨w.heap.size, 0, none⟩ = some (.int .i64 x.op) ∧ w1.cell? ⟨w.heap.size, 1, none⟩ = some (.int .i64 x.n) ∧
      w1.cell? ⟨w.heap.size, 2, none⟩ = some (.int .i64 x.v.kind) ∧ w1.cell? ⟨w.heap.size, 3, none⟩ = some (.int .i64 x.v.n) ∧ w1.cell? ⟨w.heap.size, 4, none⟩ = some (.string (str x.v.s)))
    case first =>
      go_wp2_with (go_at_call 139; refine (c_ref04_Check x.v _ hs).mono ?_; rintro e w1 ⟨rfl, hb1⟩; have q1 := fun o => hb1.cell (p := ⟨w.heap.size, o, none⟩) (by simp))
      all_goals (go_meet; case rel => refine ⟨?_, (by repeat (first | exact Below.refl _ _ | refine Below.drew ?_ | refine Below.alloc ?_ (by first | omega | (simp; done) | (simp; omega)) _ | refine Below.setCell ?_ (by first | omega | (simp; done) | (simp; omega)) _ | refine Below.trans ?_ (Below.mono (by assumption) (by first | omega | (simp; done) | (simp; omega))))), ?_⟩ <;> (first | (have hz1 := hb1.size; simp at hz1) | skip) <;> (simp_all [] <;> first | omega | (intros; omega) | decide | grind))
    case rest =>
      obtain ⟨rfl, hb, hz, c0, c1, c2, c3, c4⟩ := hcut
      obtain ⟨fb, hfb⟩ : ∃ fb, (decide (0 ≤ x.n) && decide (x.n < 8) && x.v.ok) = fb := ⟨_, rfl⟩
      rw [hfb]
      have Hfb := Lib.hid hfb
      clear hfb
      cases hno : x.v.none <;> cases fb
      all_goals go_wp2_with (fail)
      all_goals (go_ret; refine RetV.bool ?_ (by repeat (first | exact Below.refl _ _ | refine Below.drew ?_ | refine Below.alloc ?_ (by first | omega | (simp; done) | (simp; omega)) _ | refine Below.setCell ?_ (by first | omega | (simp; done) | (simp; omega)) _ | refine Below.trans ?_ (Below.mono (by assumption) (by first | omega | (simp; done) | (simp; omega))))); have hfb := Hfb.out; have hnk := Val.none_ok (x := x.v); (simp_all [Node.ok] <;> first | omega | (intros; omega) | decide | grind))
end Go.Proofs.YtjhndilflcigiaaDoor
namespace Go.Proofs.YtjhndilflcigiaaDoor
open Go.RowKit

theorem endAt_hid (l : List Node) (i : Nat) : Hid (endFrom (l.drop (i + 0)) 1 (i + 0) = endAt l i) := (endAt_nat l i).symm

set_option maxHeartbeats 400000 in
theorem c_pred_End (l : List Node) (A : Option Addr) (c : Nat) (i : Int) (w : World) (h : InN w A c l) :
    Calls Tryd.prog 144 #[.slice A l.length c, .int .i64 i] w (RetV w (.int .i64 (endAt l i))) := by
  have hL := h.1
  have hC := h.2.1
  have hS := h.2.2.1
  by_cases h1 : i < 0
  · have H := Lib.hid (endAt_neg (l := l) h1)
    go_enter Tryd.func144, Tryd.ntmps144
    go_wp2
    go_ret
    exact RetV.int H.out.symm (Below.refl _ _)
  by_cases h2 : l.length ≤ i
  · have H := Lib.hid (endAt_past h2)
    go_enter Tryd.func144, Tryd.ntmps144
    go_wp2
    go_ret
    exact RetV.int H.out.symm (Below.refl _ _)
  obtain ⟨a, rfl⟩ : ∃ a : Nat, i = a := ⟨i.toNat, by omega⟩
  obtain ⟨b, off, rfl, hb, hrow⟩ := h.at (i := a) (by omega)
  clear h
  go_enter Tryd.func144, Tryd.ntmps144
  go_wp2
  go_loopw [5, 20] (fun need i wr => ∃ k : Nat, ∃ nd : Int, a + k ≤ l.length ∧ 1 ≤ nd ∧ nd ≤ 2 * k + 1 ∧ need = .int .i64 nd ∧ i = .int .i64 k ∧ Hid (endFrom (l.drop (a + k)) nd (a + k) = endAt l a) ∧ Below w.heap.size w wr)
     (fun _ i _ => l.length - (intOf i).toNat)
  case atStart => exact ⟨0, 1, by omega, by omega, by omega, rfl, rfl, endAt_hid l a, Below.refl _ _⟩
  case round =>
    obtain ⟨k, nd, hk, hnd1, hnd2, rfl, rfl, H, hbl⟩ := hrel
    by_cases hlt : a + k < l.length
    · obtain ⟨e0, e1, e2, e3, e4⟩ := (hrow.below hbl hb).node hlt (o := off + a * 5 + k * 5) (by omega)
      have hf := H.out
      rw [endFrom_at l (a + k) hlt] at hf
      obtain ⟨p, hp⟩ : ∃ p, parts l[a + k].op = p := ⟨_, rfl⟩
      have hpb := parts_bd l[a + k].op
      have Hp := Lib.hid hp
      rw [hp] at hf hpb
      have hpb1 := hpb.1
      have hpb2 := hpb.2
      have HF := Lib.hid hf
      have hbz := hbl.size
      clear hf hp hpb H
      by_cases hz : nd + (p - 1) = 0
      · go_wp2_with (go_at_call 175; refine (c_pred_Parts _ _).mono ?_; rintro e w1 ⟨rfl, hb1⟩; rw [Hp.out])
        go_ret
        refine RetV.int ?_ (by repeat (first | exact Below.refl _ _ | refine Below.drew ?_ | refine Below.alloc ?_ (by first | omega | (simp; done) | (simp; omega)) _ | refine Below.setCell ?_ (by first | omega | (simp; done) | (simp; omega)) _ | refine Below.trans ?_ (Below.mono (by assumption) (by first | omega | (simp; done) | (simp; omega)))))
        have hf := HF.out
        rw [if_pos hz] at hf
        rw [← hf]
        simp
      · go_wp2_with (go_at_call 175; refine (c_pred_Parts _ _).mono ?_; rintro e w1 ⟨rfl, hb1⟩; rw [Hp.out])
        go_roundw
        case rel =>
          refine ⟨k + 1, nd + (p - 1), by omega, by omega, by omega, rfl, by go_num, ?_, (by repeat (first | exact Below.refl _ _ | refine Below.drew ?_ | refine Below.alloc ?_ (by first | omega | (simp; done) | (simp; omega)) _ | refine Below.setCell ?_ (by first | omega | (simp; done) | (simp; omega)) _ | refine Below.trans ?_ (Below.mono (by assumption) (by first | omega | (simp; done) | (simp; omega)))))⟩
          have hf := HF.out
          rw [if_neg hz] at hf
          exact hf
        case measure => simp [intOf]; omega
    · go_wp2_with fail
      go_ret
      refine RetV.int ?_ hbl
      have := H.out
      rw [List.drop_of_length_le (by omega)] at this
      exact this
set_option maxHeartbeats 400000 in
theorem c_ref10_End (l : List Node) (A : Option Addr) (c : Nat) (i : Int) (w : World) (h : InN w A c l) :
    Calls Tryd.prog 141 #[.slice A l.length c, .int .i64 i] w (RetV w (.int .i64 (endAt l i))) := by
  have hL := h.1
  have hC := h.2.1
  have hS := h.2.2.1
  by_cases h1 : i < 0
  · have H := Lib.hid (endAt_neg (l := l) h1)
    go_enter Tryd.func141, Tryd.ntmps141
    go_wp2
    go_ret
    exact RetV.int H.out.symm (Below.refl _ _)
  by_cases h2 : l.length ≤ i
  · have H := Lib.hid (endAt_past h2)
    go_enter Tryd.func141, Tryd.ntmps141
    go_wp2_with fail
    refine wp_loop_rounds 1 ?_
    rw [rounds_succ]
    go_wp2_with fail
    go_ret
    exact RetV.int H.out.symm (Below.refl _ _)
  obtain ⟨a, rfl⟩ : ∃ a : Nat, i = a := ⟨i.toNat, by omega⟩
  obtain ⟨b, off, rfl, hb, hrow⟩ := h.at (i := a) (by omega)
  clear h
  go_enter Tryd.func141, Tryd.ntmps141
  go_wp2_with (fail)
  go_loopw [1, 5] (fun i need wr => ∃ k : Nat, ∃ nd : Int, a + k ≤ l.length ∧ 0 ≤ nd ∧ nd ≤ 2 * k + 1 ∧ (nd = 0 → 1 ≤ k) ∧ need = .int .i64 nd ∧ i = .int .i64 (a + k : Nat) ∧ Hid ((nd = 0 → ((a + k : Nat) : Int) = endAt l a) ∧ (nd ≠ 0 → endFrom (l.drop (a + k)) nd (a + k) = endAt l a)) ∧ Below w.heap.size w wr)
     (fun i _ _ => l.length - (intOf i).toNat)
  case atStart => exact ⟨0, 1, by omega, by omega, by omega, by omega, rfl, rfl, ⟨by omega, fun _ => endAt_hid l a⟩, Below.refl _ _⟩
  case round =>
    obtain ⟨k, nd, hk, hnd1, hnd2, hnd3, rfl, rfl, H, hbl⟩ := hrel
    have hbz := hbl.size
    by_cases hz : nd = 0
    · have H1 := Lib.hid (H.out.1 hz)
      clear H
      subst hz
      go_wp2_with (fail)
      all_goals (go_ret; exact RetV.int H1.out hbl)
    have hnd4 : 1 ≤ nd := by omega
    have hf := H.out.2 hz
    clear H
    by_cases hlt : a + k < l.length
    · obtain ⟨e0, e1, e2, e3, e4⟩ := (hrow.below hbl hb).node hlt (o := off + (a + k) * 5) (by omega)
      rw [endFrom_at l (a + k) hlt] at hf
      obtain ⟨p, hp⟩ : ∃ p, parts l[a + k].op = p := ⟨_, rfl⟩
      have hpb := parts_bd l[a + k].op
      have Hp := Lib.hid hp
      rw [hp] at hf hpb
      have hpb1 := hpb.1
      have hpb2 := hpb.2
      have HF := Lib.hid hf
      clear hf hp hpb
      go_wp2_with (go_at_call 173; refine (c_ref10_Parts _ _).mono ?_; rintro e w1 ⟨rfl, hb1⟩; rw [Hp.out])
      go_roundw
      case rel =>
        refine ⟨k + 1, nd - 1 + p, by omega, by omega, by omega, by omega, rfl, by go_num, ?_, (by repeat (first | exact Below.refl _ _ | refine Below.drew ?_ | refine Below.alloc ?_ (by first | omega | (simp; done) | (simp; omega)) _ | refine Below.setCell ?_ (by first | omega | (simp; done) | (simp; omega)) _ | refine Below.trans ?_ (Below.mono (by assumption) (by first | omega | (simp; done) | (simp; omega)))))⟩
        have hf := HF.out
        rw [show nd + (p - 1) = nd - 1 + p by omega] at hf
        refine ⟨fun e => ?_, fun e => ?_⟩
        · rw [if_pos e] at hf; rw [← hf]; omega
        · rw [if_neg e] at hf; exact hf
      case measure => simp [intOf]; omega
    · rw [List.drop_of_length_le (by omega)] at hf
      have HF := Lib.hid hf
      clear hf
      go_wp2_with fail
      go_ret
      exact RetV.int HF.out hbl
set_option maxHeartbeats 400000 in
theorem c_law10_Large_long (n : Nat) (A : Option Addr) (c : Nat) (w : World) (hn : 100 < n) (_hL : n ≤ c) (_hC : c ≤ 9223372036854775807) :
    Calls Tryd.prog 34 #[.slice A n c] w (RetV w (.bool true)) := by
  go_enter Tryd.func34, Tryd.ntmps34
  go_wp2
  go_ret
  exact RetV.bool rfl (Below.refl _ _)
set_option maxHeartbeats 400000 in
theorem c_law10_Large (l : List Node) (A : Option Addr) (c : Nat) (w : World) (h : InN w A c l) (hs : ∀ x ∈ l, x.v.s.length ≤ 9223372036854775807) :
    Calls Tryd.prog 34 #[.slice A l.length c] w (RetV w (.bool (large l))) := by
  have hL := h.1
  have hC := h.2.1
  have hS := h.2.2.1
  by_cases h1 : 100 < l.length
  · have H : Hid (large l = true) := by unfold Hid large; simp [h1]
    go_enter Tryd.func34, Tryd.ntmps34
    go_wp2
    go_ret
    exact RetV.bool H.out.symm (Below.refl _ _)
  have HL : Hid (large l = l.any fun x => decide (200 < x.v.s.length)) := by unfold Hid large; simp [h1]
  go_enter Tryd.func34, Tryd.ntmps34
  go_wp2
  go_loop [3] (fun i => ∃ k : Nat, k ≤ l.length ∧ i = .int .i64 k ∧ Hid ((l.take k).any (fun x => decide (200 < x.v.s.length)) = false)) (fun i => l.length - (intOf i).toNat)
  case atStart => exact ⟨0, by omega, rfl, by simp [Hid]⟩
  case round =>
    obtain ⟨k, hk, rfl, H⟩ := hrel
    by_cases hlt : k < l.length
    · obtain ⟨b, off, rfl, hb, hrow⟩ := h.at hlt
      obtain ⟨e0, e1, e2, e3, e4⟩ := hrow.node hlt rfl
      have hs1 := hs l[k] (List.getElem_mem hlt)
      clear h hs
      go_wp2
      · go_ret
        refine RetV.bool ?_ (Below.refl _ _)
        rw [HL.out]
        symm
        rw [List.any_eq_true]
        exact ⟨l[k], List.getElem_mem hlt, by simp; omega⟩
      · go_round
        case rel =>
          refine ⟨k + 1, by omega, by go_num, ?_⟩
          show List.any _ _ = false
          rw [List.take_succ_eq_append_getElem hlt, List.any_append, H.out]
          simp_all; omega
        case measure => simp [intOf]; omega
    · go_wp2
      go_ret
      refine RetV.bool ?_ (Below.refl _ _)
      rw [HL.out, ← H.out, List.take_of_length_le (by omega)]
end Go.Proofs.YtjhndilflcigiaaDoor
