/-
  The walks of chapter 10's functions: which nodes may be, how many parts a kind has, where trees end; the program's and the reference's each against the same plain function.
-/
import Derived.Test.YtldoedmclfbgpaaEa2
namespace Go.Proofs.Ytldoedmclfbgpaa
open Go.RowKit

set_option maxHeartbeats 400000 in
theorem c_pred_Parts (op : Int) (w : World) : Calls Try.prog 100 #[.int .i64 op] w (RetV w (.int .i64 (parts op))) := by
  go_enter Try.func100, Try.ntmps100
  go_wp2
  all_goals (go_ret; refine RetV.int ?_ (by repeat (first | exact Below.refl _ _ | refine Below.drew ?_ | refine Below.alloc ?_ (by first | omega | (simp; done) | (simp; omega)) _ | refine Below.setCell ?_ (by first | omega | (simp; done) | (simp; omega)) _ | refine Below.trans ?_ (Below.mono (by assumption) (by first | omega | (simp; done) | (simp; omega))))); simp_all [parts])
set_option maxHeartbeats 400000 in
theorem c_ref10_Parts (op : Int) (w : World) : Calls Try.prog 92 #[.int .i64 op] w (RetV w (.int .i64 (parts op))) := by
  go_enter Try.func92, Try.ntmps92
  go_wp2
  all_goals (go_ret; refine RetV.int ?_ (by repeat (first | exact Below.refl _ _ | refine Below.drew ?_ | refine Below.alloc ?_ (by first | omega | (simp; done) | (simp; omega)) _ | refine Below.setCell ?_ (by first | omega | (simp; done) | (simp; omega)) _ | refine Below.trans ?_ (Below.mono (by assumption) (by first | omega | (simp; done) | (simp; omega))))); simp_all [parts])
/-- What the switch of pred.Node comes to. -/
def nodeClass (op below kinds : Int) : Prop :=
  ((op = 1 ∨ op = 2 ∨ op = 10 ∨ op = 11 ∨ op = 12) ∧ below = 1 ∧ kinds = 1) ∨ ((op = 3 ∨ op = 4) ∧ below = 16 ∧ kinds = 1) ∨ (op = 5 ∧ below = 8 ∧ kinds = 1) ∨
  ((op = 6 ∨ op = 7 ∨ op = 8) ∧ below = 8 ∧ kinds = 6) ∨ (op = 9 ∧ below = 8 ∧ kinds = 4)
def kindIn (kinds kind : Int) : Bool := if kinds = 1 then decide (kind = 0) else if kinds = 6 then decide (kind = 1) || decide (kind = 2) else decide (kind = 2)
theorem node_ok_of {x : Node} {b k : Int} (h : nodeClass x.op b k) : x.ok = (decide (0 ≤ x.n) && decide (x.n < b) && x.v.ok && kindIn k x.v.kind) := by
  have hn : ∀ y : Val, (y.ok && decide (y.kind = 0)) = y.none := fun y => by
    rcases Val.ok_cases y with ⟨h1, h2⟩ | ⟨h1, h2, h3⟩ | ⟨h1, h2, h3⟩ | ⟨h1, h2, h3⟩ <;> simp [*]
  have hm : ∀ y : Val, (y.ok && (decide (y.kind = 1) || decide (y.kind = 2))) = (y.ok && !y.none) := fun y => by
    rcases Val.ok_cases y with ⟨h1, h2⟩ | ⟨h1, h2, h3⟩ | ⟨h1, h2, h3⟩ | ⟨h1, h2, h3⟩ <;> simp [*]
  unfold Node.ok
  rcases h with ⟨h, rfl, rfl⟩ | ⟨h, rfl, rfl⟩ | ⟨h, rfl, rfl⟩ | ⟨h, rfl, rfl⟩ | ⟨h, rfl, rfl⟩
  · rw [if_pos h]
    simp only [kindIn, if_true, Bool.and_assoc, hn]
    by_cases h0 : x.n = 0
    · simp [h0]
    · by_cases h1 : 0 ≤ x.n
      · simp [h0, h1, show ¬ x.n < 1 by omega]
      · simp [h0, h1]
  · rw [if_neg (by omega), if_pos h]
    simp only [kindIn, if_true, Bool.and_assoc, hn]
  · rw [if_neg (by omega), if_neg (by omega), if_pos h]
    simp only [kindIn, if_true, Bool.and_assoc, hn]
  · rw [if_neg (by omega), if_neg (by omega), if_neg (by omega), if_pos h]
    simp only [kindIn, if_true, Bool.and_assoc, hm, show ¬ (6 : Int) = 1 by omega, if_false]
  · rw [if_neg (by omega), if_neg (by omega), if_neg (by omega), if_neg (by omega), if_pos h]
    simp only [kindIn, Bool.and_assoc, show ¬ (4 : Int) = 1 by omega, show ¬ (4 : Int) = 6 by omega, if_false]
set_option maxRecDepth 100000 in
set_option maxHeartbeats 1000000 in
theorem c_pred_Node (x : Node) (w : World) (hs : x.v.s.length ≤ 9223372036854775807) : Calls Try.prog 96 #[x.val] w (RetV w (.bool x.ok)) := by
  unfold Node.val
  go_enter Try.func96, Try.ntmps96
  go_upto_block 0 with (fail)
  go_cut [3, 4] from 5 to 24 (fun b k w1 => ∃ bl kn : Int, b = .int .i64 bl ∧ k = .int .i64 kn ∧ 1 ≤ bl ∧ bl ≤ 16 ∧ (kn = 1 ∨ kn = 6 ∨ kn = 4) ∧ Hid (nodeClass x.op bl kn) ∧
    w1 = w.alloc (.cells #[.int .i64 x.op, .int .i64 x.n, .int .i64 x.v.kind, .int .i64 x.v.n, .string (str x.v.s)] 94))
  case first =>
    go_wp2_with (fail)
    all_goals first
      | (go_meet
         case rel =>
           refine ⟨_, _, rfl, rfl, by omega, by omega, by omega, ?_, rfl⟩
           show nodeClass _ _ _
           unfold nodeClass
           simp_all)
      | (go_ret; refine RetV.bool ?_ (by repeat (first | exact Below.refl _ _ | refine Below.drew ?_ | refine Below.alloc ?_ (by first | omega | (simp; done) | (simp; omega)) _ | refine Below.setCell ?_ (by first | omega | (simp; done) | (simp; omega)) _ | refine Below.trans ?_ (Below.mono (by assumption) (by first | omega | (simp; done) | (simp; omega))))); simp_all [Node.ok])
  case rest =>
    obtain ⟨bl, kn, rfl, rfl, hbl, hbl2, hkn, hcls, rfl⟩ := hcut
    go_wp2_with (go_at_call 130; refine (c_value_Check x.v _ hs).mono ?_; rintro e w1 ⟨rfl, hb1⟩; have q1 := fun o => hb1.cell (p := ⟨w.heap.size, o, none⟩) (by simp); rcases Val.ok_cases x.v with ⟨hok, hno⟩ | ⟨hok, hno, hk⟩ | ⟨hok, hno, hk⟩ | ⟨hok, hno, hk⟩ <;> rcases hkn with h1 | h1 | h1)
    all_goals (go_ret; refine RetV.bool ?_ (by repeat (first | exact Below.refl _ _ | refine Below.drew ?_ | refine Below.alloc ?_ (by first | omega | (simp; done) | (simp; omega)) _ | refine Below.setCell ?_ (by first | omega | (simp; done) | (simp; omega)) _ | refine Below.trans ?_ (Below.mono (by assumption) (by first | omega | (simp; done) | (simp; omega))))); rw [node_ok_of hcls.out]; (try clear hb1 q1); (simp_all [kindIn] <;> first | omega | (intros; omega) | decide | grind))
set_option maxRecDepth 100000 in
set_option maxHeartbeats 1000000 in
theorem c_ref10_Node (x : Node) (w : World) (hs : x.v.s.length ≤ 9223372036854775807) : Calls Try.prog 51 #[x.val] w (RetV w (.bool x.ok)) := by
  unfold Node.val
  go_enter Try.func51, Try.ntmps51
  go_upto_region 1 with (fail)
  go_cut [0, 3] from 5 to 84 (fun _ a w1 => a = .bool x.v.none ∧ w1 = w.alloc (.cells #[.int .i64 x.op, .int .i64 x.n, .int .i64 x.v.kind, .int .i64 x.v.n, .string (str x.v.s)] 94))
  case first =>
    go_wp2_with (fail)
    all_goals (go_meet; case rel => refine ⟨?_, ?_⟩ <;> simp_all [Val.none])
  case rest =>
    obtain ⟨rfl, rfl⟩ := hcut
    go_upto_region 2 with (fail)
    go_cut [4] from 5 to 84 (fun a w1 => a = .bool (decide (0 ≤ x.n) && decide (x.n < 8) && x.v.ok) ∧ Below w.heap.size w w1 ∧ w.heap.size < w1.heap.size ∧ w1.cell? ⟨w.heap.size, 0, none⟩ = some (.int .i64 x.op) ∧ w1.cell? ⟨w.heap.size, 1, none⟩ = some (.int .i64 x.n) ∧
      w1.cell? ⟨w.heap.size, 2, none⟩ = some (.int .i64 x.v.kind) ∧ w1.cell? ⟨w.heap.size, 3, none⟩ = some (.int .i64 x.v.n) ∧ w1.cell? ⟨w.heap.size, 4, none⟩ = some (.string (str x.v.s)))
    case first =>
      go_wp2_with (go_at_call 91; refine (c_ref04_Check x.v _ hs).mono ?_; rintro e w1 ⟨rfl, hb1⟩; have q1 := fun o => hb1.cell (p := ⟨w.heap.size, o, none⟩) (by simp))
      all_goals (go_meet; case rel => refine ⟨?_, (by repeat (first | exact Below.refl _ _ | refine Below.drew ?_ | refine Below.alloc ?_ (by first | omega | (simp; done) | (simp; omega)) _ | refine Below.setCell ?_ (by first | omega | (simp; done) | (simp; omega)) _ | refine Below.trans ?_ (Below.mono (by assumption) (by first | omega | (simp; done) | (simp; omega))))), ?_⟩ <;> (first | (have hz1 := hb1.size; simp at hz1) | skip) <;> (simp_all [] <;> first | omega | (intros; omega) | decide | grind))
    case rest =>
      obtain ⟨rfl, hb, hz, c0, c1, c2, c3, c4⟩ := hcut
      obtain ⟨fb, hfb⟩ : ∃ fb, (decide (0 ≤ x.n) && decide (x.n < 8) && x.v.ok) = fb := ⟨_, rfl⟩
      rw [hfb]
      have Hfb := Lib.hid hfb
      clear hfb
      cases hno : x.v.none <;> cases fb
      all_goals go_wp2_with (fail)
      all_goals (go_ret; refine RetV.bool ?_ (by repeat (first | exact Below.refl _ _ | refine Below.drew ?_ | refine Below.alloc ?_ (by first | omega | (simp; done) | (simp; omega)) _ | refine Below.setCell ?_ (by first | omega | (simp; done) | (simp; omega)) _ | refine Below.trans ?_ (Below.mono (by assumption) (by first | omega | (simp; done) | (simp; omega))))); have hfb := Hfb.out; have hnk := Val.none_ok (x := x.v); (simp_all [Node.ok] <;> first | omega | (intros; omega) | decide | grind))
end Go.Proofs.Ytldoedmclfbgpaa
