/-
  Lemmas (walks and plain laws), in one text.
-/
import Derived.Test.YtjhndilflcigiaaDoorQa12
import Derived.Test.YtjhndilflcigiaaDoorRows
import Derived.WalkKit
import Derived.WalkSpells
import Derived.WalkLawsBesides
import Derived.Lib.Hide
import Derived.Deep.QuietTactic
import Derived.BigQuiet
import Derived.Maps.AppendAt
import Derived.WalkSmall
import Derived.ProofKit
import Derived.OpenShut
import Derived.JoinedCond
import Derived.Deep.Slices
import Derived.Deep.Fields
import Derived.Carry
import Derived.Deep.AppendSrc
import Derived.Lib.AppendStr
import Derived.Laws.BytesArg
import Derived.Test.YtjhndilflcigiaaDoorProg
import Derived.Shelf.Spec.TrailingZeros
import Derived.RangeFuncNested
import Derived.RangeFuncBound
import Derived.RangeFuncCalls
import Derived.RangeFuncLeaves
import Derived.Shelf.Abstract
import Derived.Shelf.RegionOpen
import Derived.OwnWalkIn
import Derived.TacticsInMore
import Derived.LoopNIn
import Derived.LoopIn
import Derived.Test.YtjhndilflcigiaaDoorTie
import Derived.Lib.LaidTab
import Derived.LaidMore
import Derived.SevenTiedAt
import Derived.Test.YtjhndilflcigiaaDoorCards
import Derived.Laws.Tables
import Derived.Laws.Rows
import Derived.ChangeKeysEq
import Derived.Laws.StructEq
import Derived.Deep.CutBlock
import Derived.Deep.DeepCutAuto
import Derived.Laws.CopyOwn
import Derived.Outline
import Derived.IntWalk
import Derived.Lib.EndianBits
import Derived.StillTail
import Derived.Lib.AppendZeros
import Derived.Deep.Quiet
namespace Go.Proofs.YtjhndilflcigiaaDoor
open Go.RowKit

def named (op : Int) : Bool := decide (3 ≤ op) && decide (op ≤ 9)
def valued (op : Int) : Bool := decide (6 ≤ op) && decide (op ≤ 9)
/-- A node's bytes, a filter's bytes. -/
def nodeB (x : Node) : List UInt8 := num x.op ++ ((if named x.op then num x.n else []) ++ (if valued x.op then valB x.v else []))
@[irreducible] def putB (l : List Node) : List UInt8 := if check l = 0 then num l.length ++ l.flatMap nodeB else []
theorem putB_bad {l : List Node} (h : check l ≠ 0) : putB l = [] := by unfold putB; rw [if_neg h]
theorem putB_ok {l : List Node} (h : check l = 0) : putB l = num l.length ++ l.flatMap nodeB := by unfold putB; rw [if_pos h]
theorem check_len {l : List Node} (h : check l = 0) : l.length ≤ 31 := by
  unfold check at h
  split at h
  · cases h
  · omega
theorem nodeB_len (x : Node) : (nodeB x).length ≤ 52 := by
  have h1 := num_len x.op
  have h2 := num_len x.n
  have h3 := valB_len x.v
  unfold nodeB
  rw [List.length_append, List.length_append]
  cases named x.op <;> cases valued x.op <;> simp <;> omega
theorem nodes_len : ∀ l : List Node, (l.flatMap nodeB).length ≤ 52 * l.length
  | [] => by simp
  | x :: l => by
    have := nodes_len l
    have := nodeB_len x
    rw [List.flatMap_cons, List.length_append, List.length_cons]; omega
theorem putB_len (l : List Node) : (putB l).length ≤ 1619 := by
  by_cases h : check l = 0
  · have h1 := check_len h
    have h2 := nodes_len l
    have h3 := num_len l.length
    rw [putB_ok h, List.length_append]; omega
  · rw [putB_bad h]; simp
theorem nodeB_A {x : Node} (h1 : named x.op = false) (h2 : valued x.op = false) : nodeB x = num x.op := by unfold nodeB; rw [h1, h2]; simp
theorem nodeB_B {x : Node} (h1 : named x.op = true) (h2 : valued x.op = false) : nodeB x = num x.op ++ num x.n := by unfold nodeB; rw [h1, h2]; simp
theorem nodeB_C {x : Node} (h1 : named x.op = true) (h2 : valued x.op = true) : nodeB x = num x.op ++ (num x.n ++ valB x.v) := by unfold nodeB; rw [h1, h2]; simp
theorem named_cases (op : Int) : (named op = false ∧ valued op = false) ∨ (named op = true ∧ valued op = false) ∨ (named op = true ∧ valued op = true) := by
  unfold named valued
  by_cases h1 : 3 ≤ op <;> by_cases h2 : op ≤ 9 <;> by_cases h3 : 6 ≤ op <;> simp [h1, h2, h3] <;> omega

set_option maxHeartbeats 400000 in
theorem c_predwire_named (op : Int) (w : World) : Calls Tryd.prog 98 #[.int .i64 op] w (RetV w (.bool (named op))) := by
  go_enter Tryd.func98, Tryd.ntmps98
  go_wp2
  all_goals (go_ret; refine RetV.bool ?_ (by repeat (first | exact Below.refl _ _ | refine Below.drew ?_ | refine Below.alloc ?_ (by first | omega | (simp; done) | (simp; omega)) _ | refine Below.setCell ?_ (by first | omega | (simp; done) | (simp; omega)) _ | refine Below.trans ?_ (Below.mono (by assumption) (by first | omega | (simp; done) | (simp; omega))))); simp_all [named]; try omega)
set_option maxHeartbeats 400000 in
theorem c_predwire_valued (op : Int) (w : World) : Calls Tryd.prog 99 #[.int .i64 op] w (RetV w (.bool (valued op))) := by
  go_enter Tryd.func99, Tryd.ntmps99
  go_wp2
  all_goals (go_ret; refine RetV.bool ?_ (by repeat (first | exact Below.refl _ _ | refine Below.drew ?_ | refine Below.alloc ?_ (by first | omega | (simp; done) | (simp; omega)) _ | refine Below.setCell ?_ (by first | omega | (simp; done) | (simp; omega)) _ | refine Below.trans ?_ (Below.mono (by assumption) (by first | omega | (simp; done) | (simp; omega))))); simp_all [valued]; try omega)
set_option maxHeartbeats 1000000 in
set_option maxRecDepth 4000 in
theorem c_predwire_Put (b : List UInt8) (B : Option Addr) (cb : Nat) (l : List Node) (A : Option Addr) (c : Nat) (w : World) (hb : InB w B cb b) (h : InN w A c l) (hbl : b.length ≤ 1000000) (hs : ∀ x ∈ l, x.v.s.length ≤ 4294967000) :
    Calls Tryd.prog 40 #[.slice B b.length cb, .slice A l.length c] w (RetS 1 bc 5 w (b ++ putB l)) := by
  have hL := h.1
  have hC := h.2.1
  have hS := h.2.2.1
  have hL' := hb.1
  have hC' := hb.2.1
  have hs' : ∀ x ∈ l, x.v.s.length ≤ 9223372036854775807 := fun x hx => by have := hs x hx; omega
  have Hs' := Lib.hid hs'
  clear hs'
  by_cases hok : check l = 0
  case neg =>
    have H : Hid (b = b ++ putB l) := by show _ = _; rw [putB_bad hok, List.append_nil]
    have hne : (check l != 0) = true := by simpa using hok
    clear hs hok
    go_enter Tryd.func40, Tryd.ntmps40
    go_wp2_with (first
      | (go_at_call 36; refine (c_Clone_b b B cb _ (hb.below hb1)).mono ?_; rintro e w2 ⟨v2, rfl, own2, hb2⟩)
      | (go_at_call 92; refine (c_pred_Check l A c _ h Hs'.out).mono ?_; rintro e w1 ⟨rfl, hb1⟩; have hz1 := hb1.size))
    go_ret
    exact RetS.of own2 (by omega) H.out (by repeat (first | exact Below.refl _ _ | refine Below.drew ?_ | refine Below.alloc ?_ (by first | omega | (simp; done) | (simp; omega)) _ | refine Below.setCell ?_ (by first | omega | (simp; done) | (simp; omega)) _ | refine Below.trans ?_ (Below.mono (by assumption) (by first | omega | (simp; done) | (simp; omega)))))
  have H : Hid (b ++ num l.length ++ (l.drop 0).flatMap nodeB = b ++ putB l) := by show _ = _; rw [putB_ok hok, List.drop_zero, List.append_assoc]
  have hne : (check l != 0) = false := by simpa using hok
  have hl31 := check_len hok
  have hn1 := (num_len l.length).2
  clear hok
  go_enter Tryd.func40, Tryd.ntmps40
  go_wp2_with (first
    | (go_at_call 37; refine (c_octet_Num b B cb _ _ (hb.below hb1)).mono ?_; rintro e w2 ⟨v2, rfl, own2, hb2⟩; have hz2 := hb2.size; obtain ⟨l2, A2, c2, H2, hl2, rfl, in2, own2'⟩ := own_open bc_len own2 (b.length + 7) (by simp only [List.length_append]; omega) (by omega); clear own2)
    | (go_at_call 92; refine (c_pred_Check l A c _ h Hs'.out).mono ?_; rintro e w1 ⟨rfl, hb1⟩; have hz1 := hb1.size))
  go_loopw [0, 18] (fun v i wr => ∃ (k : Nat) (acc : List UInt8), k ≤ l.length ∧ acc.length ≤ b.length + 7 + k * 52 ∧ i = .int .i64 k ∧ Hid (wr.ownsRow w.heap.size 5 1 v acc.length (acc.flatMap bc)) ∧ Hid (acc ++ (l.drop k).flatMap nodeB = b ++ putB l) ∧ Below w.heap.size w wr)
    (fun _ i _ => l.length - (intOf i).toNat)
  case atStart => exact ⟨0, l2, by omega, by omega, rfl, own_base own2'.out hz1, by show _ = _; rw [H2.out]; exact H.out, (by repeat (first | exact Below.refl _ _ | refine Below.drew ?_ | refine Below.alloc ?_ (by first | omega | (simp; done) | (simp; omega)) _ | refine Below.setCell ?_ (by first | omega | (simp; done) | (simp; omega)) _ | refine Below.trans ?_ (Below.mono (by assumption) (by first | omega | (simp; done) | (simp; omega)))))⟩
  case round =>
    obtain ⟨k, acc, hk, hac, rfl, O, N, hbl'⟩ := hrel
    have hbz := hbl'.size
    have hb1' := Lib.hid hb1
    have hb2' := Lib.hid hb2
    clear hb1 hb2 own2' in2
    by_cases hlt : k < l.length
    · obtain ⟨bl, off, rfl, hbb, hrow⟩ := h.at hlt
      obtain ⟨e0, e1, e2, e3, e4⟩ := (hrow.below hbl' hbb).node hlt rfl
      have hs1 := hs l[k] (List.getElem_mem hlt)
      have hN := N.out
      rw [List.drop_eq_getElem_cons hlt, List.flatMap_cons] at hN
      obtain ⟨A1, c1, rfl, in1⟩ := In.of_own bc_len O.out (by omega)
      clear h hs H N O hb
      rcases named_cases l[k].op with ⟨hnm, hvl⟩ | ⟨hnm, hvl⟩ | ⟨hnm, hvl⟩
      · rw [nodeB_A hnm hvl] at hN
        have HN := Lib.hid hN
        clear hN
        go_wp2_with (first | (go_at_call 37; refine (c_octet_Num acc A1 c1 _ _ (in1.below (by repeat (first | exact Below.refl _ _ | refine Below.drew ?_ | refine Below.alloc ?_ (by first | omega | (simp; done) | (simp; omega)) _ | refine Below.setCell ?_ (by first | omega | (simp; done) | (simp; omega)) _ | refine Below.trans ?_ (Below.mono (by assumption) (by first | omega | (simp; done) | (simp; omega))))))).mono ?_; rintro e w3 ⟨v3, rfl, own3, hb3⟩; have hz3 := hb3.size; simp only [World.size_alloc] at hz3; have q3 := fun o => hb3.cell (p := ⟨wr.heap.size, o, none⟩) (by simp); obtain ⟨l3, A3, c3, H3, hl3, rfl, in3, own3'⟩ := own_open bc_len own3 (acc.length + 7) (by have := (num_len l[k].op).2; simp only [List.length_append]; omega) (by omega); clear own3) | (go_at_call 98; refine (c_predwire_named _ _).mono ?_; rintro e w4 ⟨rfl, hb4⟩; have hz4 := hb4.size; have q4 := fun o => hb4.cell (p := ⟨wr.heap.size, o, none⟩) (by show wr.heap.size < _; omega)) | (go_at_call 99; refine (c_predwire_valued _ _).mono ?_; rintro e w5 ⟨rfl, hb5⟩; have hz5 := hb5.size))
        go_roundw
        case rel => exact ⟨k + 1, l3, by omega, by omega, by go_num, own_below (own_below (own_base own3'.out (by simp only [World.size_alloc]; omega)) hb4) hb5, by show _ = _; rw [H3.out, ← HN.out]; simp, (by repeat (first | exact Below.refl _ _ | refine Below.drew ?_ | refine Below.alloc ?_ (by first | omega | (simp; done) | (simp; omega)) _ | refine Below.setCell ?_ (by first | omega | (simp; done) | (simp; omega)) _ | refine Below.trans ?_ (Below.mono (by assumption) (by first | omega | (simp; done) | (simp; omega)))))⟩
        case measure => simp [intOf]; omega
      · rw [nodeB_B hnm hvl] at hN
        have HN := Lib.hid hN
        clear hN
        go_wp2_with (first | (go_at_call 37; refine (c_octet_Num l3 A3 c3 _ _ (in3.below hb4)).mono ?_; rintro e w6 ⟨v6, rfl, own6, hb6⟩; have hz6 := hb6.size; have q6 := fun o => hb6.cell (p := ⟨wr.heap.size, o, none⟩) (by show wr.heap.size < _; omega); obtain ⟨l6, A6, c6, H6, hl6, rfl, in6, own6'⟩ := own_open bc_len own6 (acc.length + 14) (by have := (num_len l[k].n).2; simp only [List.length_append]; omega) (by omega); clear own6) | (go_at_call 37; refine (c_octet_Num acc A1 c1 _ _ (in1.below (by repeat (first | exact Below.refl _ _ | refine Below.drew ?_ | refine Below.alloc ?_ (by first | omega | (simp; done) | (simp; omega)) _ | refine Below.setCell ?_ (by first | omega | (simp; done) | (simp; omega)) _ | refine Below.trans ?_ (Below.mono (by assumption) (by first | omega | (simp; done) | (simp; omega))))))).mono ?_; rintro e w3 ⟨v3, rfl, own3, hb3⟩; have hz3 := hb3.size; simp only [World.size_alloc] at hz3; have q3 := fun o => hb3.cell (p := ⟨wr.heap.size, o, none⟩) (by simp); obtain ⟨l3, A3, c3, H3, hl3, rfl, in3, own3'⟩ := own_open bc_len own3 (acc.length + 7) (by have := (num_len l[k].op).2; simp only [List.length_append]; omega) (by omega); clear own3) | (go_at_call 98; refine (c_predwire_named _ _).mono ?_; rintro e w4 ⟨rfl, hb4⟩; have hz4 := hb4.size; have q4 := fun o => hb4.cell (p := ⟨wr.heap.size, o, none⟩) (by show wr.heap.size < _; omega)) | (go_at_call 99; refine (c_predwire_valued _ _).mono ?_; rintro e w7 ⟨rfl, hb7⟩; have hz7 := hb7.size; have q7 := fun o => hb7.cell (p := ⟨wr.heap.size, o, none⟩) (by show wr.heap.size < _; omega)))
        go_roundw
        case rel => exact ⟨k + 1, l6, by omega, by omega, by go_num, own_below (own_base own6'.out (by omega)) hb7, by show _ = _; rw [H6.out, H3.out, ← HN.out]; simp, (by repeat (first | exact Below.refl _ _ | refine Below.drew ?_ | refine Below.alloc ?_ (by first | omega | (simp; done) | (simp; omega)) _ | refine Below.setCell ?_ (by first | omega | (simp; done) | (simp; omega)) _ | refine Below.trans ?_ (Below.mono (by assumption) (by first | omega | (simp; done) | (simp; omega)))))⟩
        case measure => simp [intOf]; omega
      · rw [nodeB_C hnm hvl] at hN
        have HN := Lib.hid hN
        clear hN
        go_wp2_with (first | (go_at_call 97; refine (c_cardwire_PutValue l6 A6 c6 l[k].v _ (in6.below hb7) (by omega) hs1).mono ?_; rintro e w8 ⟨v8, rfl, own8, hb8⟩; have hz8 := hb8.size; obtain ⟨l8, A8, c8, H8, hl8, rfl, in8, own8'⟩ := own_open bc_len own8 (acc.length + 52) (by have := valB_len l[k].v; simp only [List.length_append]; omega) (by omega); clear own8) | (go_at_call 37; refine (c_octet_Num l3 A3 c3 _ _ (in3.below hb4)).mono ?_; rintro e w6 ⟨v6, rfl, own6, hb6⟩; have hz6 := hb6.size; have q6 := fun o => hb6.cell (p := ⟨wr.heap.size, o, none⟩) (by show wr.heap.size < _; omega); obtain ⟨l6, A6, c6, H6, hl6, rfl, in6, own6'⟩ := own_open bc_len own6 (acc.length + 14) (by have := (num_len l[k].n).2; simp only [List.length_append]; omega) (by omega); clear own6) | (go_at_call 37; refine (c_octet_Num acc A1 c1 _ _ (in1.below (by repeat (first | exact Below.refl _ _ | refine Below.drew ?_ | refine Below.alloc ?_ (by first | omega | (simp; done) | (simp; omega)) _ | refine Below.setCell ?_ (by first | omega | (simp; done) | (simp; omega)) _ | refine Below.trans ?_ (Below.mono (by assumption) (by first | omega | (simp; done) | (simp; omega))))))).mono ?_; rintro e w3 ⟨v3, rfl, own3, hb3⟩; have hz3 := hb3.size; simp only [World.size_alloc] at hz3; have q3 := fun o => hb3.cell (p := ⟨wr.heap.size, o, none⟩) (by simp); obtain ⟨l3, A3, c3, H3, hl3, rfl, in3, own3'⟩ := own_open bc_len own3 (acc.length + 7) (by have := (num_len l[k].op).2; simp only [List.length_append]; omega) (by omega); clear own3) | (go_at_call 98; refine (c_predwire_named _ _).mono ?_; rintro e w4 ⟨rfl, hb4⟩; have hz4 := hb4.size; have q4 := fun o => hb4.cell (p := ⟨wr.heap.size, o, none⟩) (by show wr.heap.size < _; omega)) | (go_at_call 99; refine (c_predwire_valued _ _).mono ?_; rintro e w7 ⟨rfl, hb7⟩; have hz7 := hb7.size; have q7 := fun o => hb7.cell (p := ⟨wr.heap.size, o, none⟩) (by show wr.heap.size < _; omega)))
        go_roundw
        case rel => exact ⟨k + 1, l8, by omega, by omega, by go_num, own_base own8'.out (by omega), by show _ = _; rw [H8.out, H6.out, H3.out, ← HN.out]; simp, (by repeat (first | exact Below.refl _ _ | refine Below.drew ?_ | refine Below.alloc ?_ (by first | omega | (simp; done) | (simp; omega)) _ | refine Below.setCell ?_ (by first | omega | (simp; done) | (simp; omega)) _ | refine Below.trans ?_ (Below.mono (by assumption) (by first | omega | (simp; done) | (simp; omega)))))⟩
        case measure => simp [intOf]; omega
    · have hN := N.out
      rw [List.drop_of_length_le (by omega)] at hN
      have HN := Lib.hid hN
      obtain ⟨A1, c1, rfl, _, _⟩ := own_form O.out
      clear hN N H
      go_wp2_with (fail)
      go_ret
      exact RetS.of O.out (by omega) (by rw [← HN.out]; simp) hbl'
set_option maxHeartbeats 1000000 in
set_option maxRecDepth 4000 in
theorem c_ref16_Put (l : List Node) (A : Option Addr) (c : Nat) (w : World) (h : InN w A c l) (hs : ∀ x ∈ l, x.v.s.length ≤ 4294967000) :
    Calls Tryd.prog 44 #[.slice A l.length c] w (RetV w (.string (str (putB l)))) := by
  have hL := h.1
  have hC := h.2.1
  have hS := h.2.2.1
  have hs' : ∀ x ∈ l, x.v.s.length ≤ 9223372036854775807 := fun x hx => by have := hs x hx; omega
  have Hs' := Lib.hid hs'
  clear hs'
  by_cases hok : check l = 0
  case neg =>
    have H : Hid (([] : List UInt8) = putB l) := by show _ = _; rw [putB_bad hok]
    have hne : (check l != 0) = true := by simpa using hok
    clear hs hok
    go_enter Tryd.func44, Tryd.ntmps44
    go_wp2_with (first
      | (go_at_call 87; refine (c_ref10_Check l A c _ h Hs'.out).mono ?_; rintro e w1 ⟨rfl, hb1⟩; have hz1 := hb1.size))
    go_ret
    exact RetV.str H.out (by repeat (first | exact Below.refl _ _ | refine Below.drew ?_ | refine Below.alloc ?_ (by first | omega | (simp; done) | (simp; omega)) _ | refine Below.setCell ?_ (by first | omega | (simp; done) | (simp; omega)) _ | refine Below.trans ?_ (Below.mono (by assumption) (by first | omega | (simp; done) | (simp; omega)))))
  have H : Hid (num l.length ++ (l.drop 0).flatMap nodeB = putB l) := by show _ = _; rw [putB_ok hok, List.drop_zero]
  have hne : (check l != 0) = false := by simpa using hok
  have hl31 := check_len hok
  have hn1 := (num_len l.length).2
  clear hok
  go_enter Tryd.func44, Tryd.ntmps44
  go_wp2_with (first
    | (go_at_call 41; refine (c_ref01_Num _ _).mono ?_; rintro e w2 ⟨rfl, hb2⟩; have hz2 := hb2.size)
    | (go_at_call 87; refine (c_ref10_Check l A c _ h Hs'.out).mono ?_; rintro e w1 ⟨rfl, hb1⟩; have hz1 := hb1.size))
  go_loopw [3, 4] (fun v i wr => ∃ (k : Nat) (acc : List UInt8), k ≤ l.length ∧ acc.length ≤ 7 + k * 52 ∧ i = .int .i64 k ∧ v = .string (str acc) ∧ Hid (acc ++ (l.drop k).flatMap nodeB = putB l) ∧ Below w.heap.size w wr)
    (fun _ i _ => l.length - (intOf i).toNat)
  case atStart => exact ⟨0, num l.length, by omega, by omega, rfl, rfl, H.out, (by repeat (first | exact Below.refl _ _ | refine Below.drew ?_ | refine Below.alloc ?_ (by first | omega | (simp; done) | (simp; omega)) _ | refine Below.setCell ?_ (by first | omega | (simp; done) | (simp; omega)) _ | refine Below.trans ?_ (Below.mono (by assumption) (by first | omega | (simp; done) | (simp; omega)))))⟩
  case round =>
    obtain ⟨k, acc, hk, hac, rfl, rfl, N, hbl'⟩ := hrel
    have hbz := hbl'.size
    have hb1' := Lib.hid hb1
    have hb2' := Lib.hid hb2
    clear hb1 hb2
    by_cases hlt : k < l.length
    · obtain ⟨bl, off, rfl, hbb, hrow⟩ := h.at hlt
      obtain ⟨e0, e1, e2, e3, e4⟩ := (hrow.below hbl' hbb).node hlt rfl
      have hs1 := hs l[k] (List.getElem_mem hlt)
      have hN := N.out
      rw [List.drop_eq_getElem_cons hlt, List.flatMap_cons] at hN
      have hn2 := (num_len l[k].op).2
      have hn3 := (num_len l[k].n).2
      have hn4 := valB_len l[k].v
      clear h hs H N
      rcases named_cases l[k].op with ⟨hnm, hvl⟩ | ⟨hnm, hvl⟩ | ⟨hnm, hvl⟩
      · rw [nodeB_A hnm hvl] at hN
        have HN := Lib.hid hN
        clear hN
        have Hnm := Lib.hid hnm
        have Hvl := Lib.hid hvl
        simp only [named, valued, Bool.and_eq_false_iff, decide_eq_false_iff_not] at hnm hvl
        go_wp2_with (first | (go_at_call 41; refine (c_ref01_Num _ _).mono ?_; rintro e w3 ⟨rfl, hb3⟩; have hz3 := hb3.size; (try simp only [World.size_alloc] at hz3); have q3 := fun o => hb3.cell (p := ⟨wr.heap.size, o, none⟩) (by show wr.heap.size < _; first | (simp; done) | omega); have hB3 : Below w.heap.size w w3 := (by repeat (first | exact Below.refl _ _ | refine Below.drew ?_ | refine Below.alloc ?_ (by first | omega | (simp; done) | (simp; omega)) _ | refine Below.setCell ?_ (by first | omega | (simp; done) | (simp; omega)) _ | refine Below.trans ?_ (Below.mono (by assumption) (by first | omega | (simp; done) | (simp; omega))))); have hlt3 : wr.heap.size < w3.heap.size := by omega))
        all_goals first
          | (exfalso; omega)
          | (go_roundw
             case rel => exact ⟨k + 1, acc ++ num l[k].op, by omega, by simp only [List.length_append]; omega, by go_num, by simp, by show _ = _; rw [← HN.out]; simp, (by repeat (first | exact Below.refl _ _ | refine Below.drew ?_ | refine Below.alloc ?_ (by first | omega | (simp; done) | (simp; omega)) _ | refine Below.setCell ?_ (by first | omega | (simp; done) | (simp; omega)) _ | refine Below.trans ?_ (Below.mono (by assumption) (by first | omega | (simp; done) | (simp; omega)))))⟩
             case measure => simp [intOf]; omega)
      · rw [nodeB_B hnm hvl] at hN
        have HN := Lib.hid hN
        clear hN
        have Hnm := Lib.hid hnm
        have Hvl := Lib.hid hvl
        simp only [named, valued, Bool.and_eq_false_iff, Bool.and_eq_true, decide_eq_true_eq, decide_eq_false_iff_not] at hnm hvl
        go_wp2_with (first | (go_at_call 41; have hB4' := hB3; refine (c_ref01_Num _ _).mono ?_; rintro e w4 ⟨rfl, hb4⟩; have hz4 := hb4.size; have q4 := fun o => hb4.cell (p := ⟨wr.heap.size, o, none⟩) (by show wr.heap.size < _; first | (simp; done) | omega); have hB4 : Below w.heap.size w w4 := hB3.trans (hb4.mono (by omega))) | (go_at_call 41; refine (c_ref01_Num _ _).mono ?_; rintro e w3 ⟨rfl, hb3⟩; have hz3 := hb3.size; (try simp only [World.size_alloc] at hz3); have q3 := fun o => hb3.cell (p := ⟨wr.heap.size, o, none⟩) (by show wr.heap.size < _; first | (simp; done) | omega); have hB3 : Below w.heap.size w w3 := (by repeat (first | exact Below.refl _ _ | refine Below.drew ?_ | refine Below.alloc ?_ (by first | omega | (simp; done) | (simp; omega)) _ | refine Below.setCell ?_ (by first | omega | (simp; done) | (simp; omega)) _ | refine Below.trans ?_ (Below.mono (by assumption) (by first | omega | (simp; done) | (simp; omega))))); have hlt3 : wr.heap.size < w3.heap.size := by omega))
        all_goals first
          | (exfalso; omega)
          | (go_roundw
             case rel => exact ⟨k + 1, acc ++ num l[k].op ++ num l[k].n, by omega, by simp only [List.length_append]; omega, by go_num, by simp, by show _ = _; rw [← HN.out]; simp, (by repeat (first | exact Below.refl _ _ | refine Below.drew ?_ | refine Below.alloc ?_ (by first | omega | (simp; done) | (simp; omega)) _ | refine Below.setCell ?_ (by first | omega | (simp; done) | (simp; omega)) _ | refine Below.trans ?_ (Below.mono (by assumption) (by first | omega | (simp; done) | (simp; omega)))))⟩
             case measure => simp [intOf]; omega)
      · rw [nodeB_C hnm hvl] at hN
        have HN := Lib.hid hN
        clear hN
        have Hnm := Lib.hid hnm
        have Hvl := Lib.hid hvl
        simp only [named, valued, Bool.and_eq_true, decide_eq_true_eq] at hnm hvl
        go_wp2_with (first | (go_at_call 105; refine (c_ref08_PutValue l[k].v _ hs1).mono ?_; rintro e w5 ⟨rfl, hb5⟩; have hz5 := hb5.size; have hB5 : Below w.heap.size w w5 := hB4.trans (hb5.mono (by omega))) | (go_at_call 41; have hB4' := hB3; refine (c_ref01_Num _ _).mono ?_; rintro e w4 ⟨rfl, hb4⟩; have hz4 := hb4.size; have q4 := fun o => hb4.cell (p := ⟨wr.heap.size, o, none⟩) (by show wr.heap.size < _; first | (simp; done) | omega); have hB4 : Below w.heap.size w w4 := hB3.trans (hb4.mono (by omega))) | (go_at_call 41; refine (c_ref01_Num _ _).mono ?_; rintro e w3 ⟨rfl, hb3⟩; have hz3 := hb3.size; (try simp only [World.size_alloc] at hz3); have q3 := fun o => hb3.cell (p := ⟨wr.heap.size, o, none⟩) (by show wr.heap.size < _; first | (simp; done) | omega); have hB3 : Below w.heap.size w w3 := (by repeat (first | exact Below.refl _ _ | refine Below.drew ?_ | refine Below.alloc ?_ (by first | omega | (simp; done) | (simp; omega)) _ | refine Below.setCell ?_ (by first | omega | (simp; done) | (simp; omega)) _ | refine Below.trans ?_ (Below.mono (by assumption) (by first | omega | (simp; done) | (simp; omega))))); have hlt3 : wr.heap.size < w3.heap.size := by omega))
        all_goals first
          | (exfalso; omega)
          | (go_roundw
             case rel => exact ⟨k + 1, acc ++ num l[k].op ++ num l[k].n ++ valB l[k].v, by omega, by simp only [List.length_append]; omega, by go_num, by simp, by show _ = _; rw [← HN.out]; simp, (by repeat (first | exact Below.refl _ _ | refine Below.drew ?_ | refine Below.alloc ?_ (by first | omega | (simp; done) | (simp; omega)) _ | refine Below.setCell ?_ (by first | omega | (simp; done) | (simp; omega)) _ | refine Below.trans ?_ (Below.mono (by assumption) (by first | omega | (simp; done) | (simp; omega)))))⟩
             case measure => simp [intOf]; omega)
    · have hN := N.out
      rw [List.drop_of_length_le (by omega)] at hN
      have HN := Lib.hid hN
      clear hN N H
      go_wp2_with (fail)
      go_ret
      exact RetV.str (by rw [← HN.out]; simp) hbl'
end Go.Proofs.YtjhndilflcigiaaDoor
namespace Go.Proofs.YtjhndilflcigiaaDoor
open Go.RowKit

theorem RdP.nil {w : World} {st : Rd} (h : RdP w none st) : st = ⟨[], 1⟩ := by
  rcases h with ⟨_, h⟩ | ⟨g, _, _, _, _, h, _⟩
  · exact h
  · cases h
theorem RdP.at {w : World} {g : Nat} {st : Rd} (h : RdP w (some g) st) : ∃ A c B pos, RdA w g A c B pos st.e ∧ st.s = B.drop pos := by
  rcases h with ⟨h, _⟩ | ⟨g', A, c, B, pos, h, ha, hs⟩
  · cases h
  · injection h with h; subst h; exact ⟨A, c, B, pos, ha, hs⟩
theorem RdP.mk {w : World} {g : Nat} {A : Option Addr} {c : Nat} {B : List UInt8} {pos : Nat} {st : Rd} (ha : RdA w g A c B pos st.e) (hs : st.s = B.drop pos) : RdP w (some g) st := .inr ⟨g, A, c, B, pos, rfl, ha, hs⟩
theorem RdP.nilmk (w : World) : RdP w none ⟨[], 1⟩ := .inl ⟨rfl, rfl⟩
theorem RetP.nil {w w' : World} {st' : Rd} {v : Value} (h : st' = ⟨[], 1⟩) (hb : Below w.heap.size w w') : RetP none st' w v (.returned v) w' := by subst h; exact ⟨rfl, RdP.nilmk _, .of_below hb⟩
theorem RetP.same {w w' : World} {p : Option Nat} {st : Rd} {v : Value} (h : RdP w p st) (hb : Below w.heap.size w w') : RetP p st w v (.returned v) w' := ⟨rfl, h.below hb, .of_below hb⟩

/-- The nil reader, or the one at g. -/
theorem RdA.fail {w : World} {g : Nat} {A : Option Addr} {c : Nat} {B : List UInt8} {pos : Nat} {st : Rd} {e : Int} (ha : RdA w g A c B pos st.e) (hs : st.s = B.drop pos) : RdP (w.setCell ⟨g, 2, none⟩ (.int .i64 e)) (some g) ⟨st.s, e⟩ ∧ Kept (some g) w.heap.size w (w.setCell ⟨g, 2, none⟩ (.int .i64 e)) :=
  ⟨RdP.mk (ha.store2 e) hs, (Kept.refl _ _ _).setCell (q := ⟨g, 2, none⟩) (.inr rfl) _⟩
theorem RdA.in {w : World} {g : Nat} {A : Option Addr} {c : Nat} {B : List UInt8} {pos : Nat} {e : Int} (ha : RdA w g A c B pos e) : InB w A c B :=
  ⟨ha.2.2.1, ha.2.2.2.1, ha.2.2.2.2.1, ha.2.2.2.2.2.imp id fun ⟨b, off, hA, hb, hr⟩ => ⟨b, off, hA, by have := ha.1.lt; omega, hr⟩⟩
end Go.Proofs.YtjhndilflcigiaaDoor
namespace Go.Proofs.YtjhndilflcigiaaDoor
open Go.RowKit

theorem Blk.three {w : World} {g : Nat} {a b c : Value} (h : Blk w g #[a, b, c]) : w.cell? ⟨g, 0, none⟩ = some a ∧ w.cell? ⟨g, 1, none⟩ = some b ∧ w.cell? ⟨g, 2, none⟩ = some c ∧ ∀ i, w.frozen? ⟨g, i, none⟩ = false :=
  ⟨h.cell rfl, h.cell rfl, h.cell rfl, fun i => h.frozen i⟩
theorem RdP.own {w w' : World} {p : Option Nat} {st : Rd} {b : Nat} (r : RdP w p st) (k : Kept (some b) w.heap.size w w') (hb : ∀ g, p = some g → g < b) : RdP w' p st :=
  r.kept k (fun g h hg hh => by injection hh with hh; subst hh; exact hb g hg)
theorem RdP.up {w w' : World} {p : Option Nat} {st : Rd} {B : Nat} (r : RdP w p st) (k : Below B w w') (hb : ∀ g, p = some g → g < B) : RdP w' p st := by
  rcases r with ⟨rfl, hs⟩ | ⟨g, A, c, L, pos, rfl, ⟨h1, h2, h3, h4, h5, h6⟩, hs⟩
  · exact .inl ⟨rfl, hs⟩
  · have hg := hb g rfl
    exact .inr ⟨g, A, c, L, pos, rfl, ⟨h1.below k hg, h2, h3, h4, h5, h6.imp id fun ⟨b, off, hA, hbg, hr⟩ => ⟨b, off, hA, hbg, hr.belowB k (by omega)⟩⟩, hs⟩
theorem RdR.up {w w' : World} {h : Nat} {st : Rd} {B : Nat} (r : RdR w h st) (k : Below B w w') (hb : h < B) : RdR w' h st := ⟨r.1.below k hb, r.2⟩
end Go.Proofs.YtjhndilflcigiaaDoor
namespace Go.Proofs.YtjhndilflcigiaaDoor
open Go.RowKit

def belowOf (op : Int) : Int := if op = 3 ∨ op = 4 then 16 else 8
def ndA (st : Rd) : Rd := if rdN st 12 = 0 then rdF (rdN' st 12) 3 else rdN' st 12
def ndN (st : Rd) : Int := if named (rdN st 12) then rdN (ndA st) (belowOf (rdN st 12) - 1) else 0
def ndB (st : Rd) : Rd := if named (rdN st 12) then rdN' (ndA st) (belowOf (rdN st 12) - 1) else ndA st
def ndV (st : Rd) : Val := if valued (rdN st 12) then rdVal (ndB st) else ⟨0, 0, []⟩
def ndC (st : Rd) : Rd := if valued (rdN st 12) then rdVal' (ndB st) else ndB st
def ndNode (st : Rd) : Node := ⟨rdN st 12, ndN st, ndV st⟩
def ndD (st : Rd) : Rd := if valued (rdN st 12) ∧ (ndNode st).ok = false then rdF (ndC st) 3 else ndC st
def rdNodes : Nat → Rd → List Node
  | 0, _ => []
  | k + 1, st => if st.e = 0 then ndNode st :: rdNodes k (ndD st) else []
def rdNodes' : Nat → Rd → Rd
  | 0, st => st
  | k + 1, st => if st.e = 0 then rdNodes' k (ndD st) else st
def pdA (st : Rd) : Rd := if rdN st 31 = 0 then rdF (rdN' st 31) 3 else rdN' st 31
def pdL (st : Rd) : List Node := rdNodes (rdN st 31).toNat (pdA st)
def pdS (st : Rd) : Rd := rdNodes' (rdN st 31).toNat (pdA st)
@[irreducible] def rdPred (st : Rd) : List Node := if (pdS st).e = 0 ∧ check (pdL st) = 0 then pdL st else []
@[irreducible] def rdPred' (st : Rd) : Rd := if (pdS st).e = 0 then (if check (pdL st) = 0 then pdS st else if check (pdL st) = 5 then ⟨(pdS st).s, 5⟩ else ⟨(pdS st).s, 3⟩) else pdS st

theorem Kept.low {p : Option Nat} {B : Nat} {a w w' : World} (h : Kept p B a w) (k : Below B w w') : Kept p B a w' := h.trans (.of_below k)
/-! The ends of the calls that read a slice. -/
end Go.Proofs.YtjhndilflcigiaaDoor
