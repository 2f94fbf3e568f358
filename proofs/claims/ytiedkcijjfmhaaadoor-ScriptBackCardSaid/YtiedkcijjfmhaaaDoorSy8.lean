/-
  Lemmas (walks and plain laws), in one text.
-/
import Derived.Test.YtiedkcijjfmhaaaDoorSy1
import Derived.Test.YtiedkcijjfmhaaaDoorSy2
import Derived.Test.YtiedkcijjfmhaaaDoorSy6
import Derived.Test.YtiedkcijjfmhaaaDoorSy7
import Derived.Lib.AppendZeros
namespace Go.Proofs.YtiedkcijjfmhaaaDoor
open Go.RowKit

def named (op : Int) : Bool := decide (3 ≤ op) && decide (op ≤ 9)
def valued (op : Int) : Bool := decide (6 ≤ op) && decide (op ≤ 9)
def nodeB (x : Node) : List UInt8 := num x.op ++ ((if named x.op then num x.n else []) ++ (if valued x.op then valB x.v else []))
@[irreducible] def putB (l : List Node) : List UInt8 := if check l = 0 then num l.length ++ l.flatMap nodeB else []
theorem putB_bad {l : List Node} (h : check l ≠ 0) : putB l = [] := by unfold putB; rw [if_neg h]
theorem putB_ok {l : List Node} (h : check l = 0) : putB l = num l.length ++ l.flatMap nodeB := by unfold putB; rw [if_pos h]
theorem check_len {l : List Node} (h : check l = 0) : l.length ≤ 31 := by
  unfold check at h
  split at h
  · cases h
  · omega
theorem check_ok {l : List Node} (h : check l = 0) : ∀ x ∈ l, x.ok = true := by
  unfold check at h
  split at h
  · cases h
  · split at h
    · cases h
    · split at h
      · cases h
      · rename_i h3
        intro x hx
        simp only [List.any_eq_true, not_exists, not_and] at h3
        have := h3 x hx
        cases hok : x.ok
        · simp [hok] at this
        · rfl
theorem nodeB_len (x : Node) : (nodeB x).length ≤ 52 := by
  have h1 := num_len x.op
  have h2 := num_len x.n
  have h3 := valB_len x.v
  unfold nodeB
  rw [List.length_append, List.length_append]
  cases named x.op <;> cases valued x.op <;> simp <;> omega
theorem nodes_len : ∀ l : List Node, (l.flatMap nodeB).length ≤ 52 * l.length
  | [] => by simp
  | x :: l => by
    have := nodes_len l
    have := nodeB_len x
    rw [List.flatMap_cons, List.length_append, List.length_cons]; omega
theorem putB_len (l : List Node) : (putB l).length ≤ 1619 := by
  by_cases h : check l = 0
  · have h1 := check_len h
    have h2 := nodes_len l
    have h3 := num_len l.length
    rw [putB_ok h, List.length_append]; omega
  · rw [putB_bad h]; simp
theorem nodeB_A {x : Node} (h1 : named x.op = false) (h2 : valued x.op = false) : nodeB x = num x.op := by unfold nodeB; rw [h1, h2]; simp
theorem nodeB_B {x : Node} (h1 : named x.op = true) (h2 : valued x.op = false) : nodeB x = num x.op ++ num x.n := by unfold nodeB; rw [h1, h2]; simp
theorem nodeB_C {x : Node} (h1 : named x.op = true) (h2 : valued x.op = true) : nodeB x = num x.op ++ (num x.n ++ valB x.v) := by unfold nodeB; rw [h1, h2]; simp
theorem named_cases (op : Int) : (named op = false ∧ valued op = false) ∨ (named op = true ∧ valued op = false) ∨ (named op = true ∧ valued op = true) := by
  unfold named valued
  by_cases h1 : 3 ≤ op <;> by_cases h2 : op ≤ 9 <;> by_cases h3 : 6 ≤ op <;> simp [h1, h2, h3] <;> omega

set_option maxHeartbeats 400000 in
theorem c_predwire_named (op : Int) (w : World) : Calls Tryd.prog 94 #[.int .i64 op] w (RetV w (.bool (named op))) := by
  go_enter Tryd.func94, Tryd.ntmps94
  go_wp2
  all_goals (go_ret; refine RetV.bool ?_ (by repeat (first | exact Below.refl _ _ | refine Below.drew ?_ | refine Below.alloc ?_ (by first | omega | (simp; done) | (simp; omega)) _ | refine Below.setCell ?_ (by first | omega | (simp; done) | (simp; omega)) _ | refine Below.trans ?_ (Below.mono (by assumption) (by first | omega | (simp; done) | (simp; omega))))); simp_all [named]; try omega)
set_option maxHeartbeats 400000 in
theorem c_predwire_valued (op : Int) (w : World) : Calls Tryd.prog 95 #[.int .i64 op] w (RetV w (.bool (valued op))) := by
  go_enter Tryd.func95, Tryd.ntmps95
  go_wp2
  all_goals (go_ret; refine RetV.bool ?_ (by repeat (first | exact Below.refl _ _ | refine Below.drew ?_ | refine Below.alloc ?_ (by first | omega | (simp; done) | (simp; omega)) _ | refine Below.setCell ?_ (by first | omega | (simp; done) | (simp; omega)) _ | refine Below.trans ?_ (Below.mono (by assumption) (by first | omega | (simp; done) | (simp; omega))))); simp_all [valued]; try omega)
set_option maxHeartbeats 1000000 in
set_option maxRecDepth 4000 in
theorem c_predwire_Put (b : List UInt8) (B : Option Addr) (cb : Nat) (l : List Node) (A : Option Addr) (c : Nat) (w : World) (hb : InB w B cb b) (h : InN w A c l) (hbl : b.length ≤ 1000000) (hs : ∀ x ∈ l, x.v.s.length ≤ 4294967000) :
    Calls Tryd.prog 73 #[.slice B b.length cb, .slice A l.length c] w (RetS 1 bc 5 w (b ++ putB l)) := by
  have hL := h.1
  have hC := h.2.1
  have hS := h.2.2.1
  have hL' := hb.1
  have hC' := hb.2.1
  have hs' : ∀ x ∈ l, x.v.s.length ≤ 9223372036854775807 := fun x hx => by have := hs x hx; omega
  have Hs' := lh hs'
  clear hs'
  by_cases hok : check l = 0
  case neg =>
    have H : Hid (b = b ++ putB l) := by show _ = _; rw [putB_bad hok, List.append_nil]
    have hne : (check l != 0) = true := by simpa using hok
    clear hs hok
    go_enter Tryd.func73, Tryd.ntmps73
    go_wp2_with (first
      | (go_at_call 93; refine (c_Clone_b b B cb _ (hb.below hb1)).mono ?_; rintro e w2 ⟨v2, rfl, own2, hb2⟩)
      | (go_at_call 23; refine (c_pred_Check l A c _ h Hs'.out).mono ?_; rintro e w1 ⟨rfl, hb1⟩; have hz1 := hb1.size))
    go_ret
    exact RetS.of own2 (by omega) H.out (by repeat (first | exact Below.refl _ _ | refine Below.drew ?_ | refine Below.alloc ?_ (by first | omega | (simp; done) | (simp; omega)) _ | refine Below.setCell ?_ (by first | omega | (simp; done) | (simp; omega)) _ | refine Below.trans ?_ (Below.mono (by assumption) (by first | omega | (simp; done) | (simp; omega)))))
  have H : Hid (b ++ num l.length ++ (l.drop 0).flatMap nodeB = b ++ putB l) := by show _ = _; rw [putB_ok hok, List.drop_zero, List.append_assoc]
  have hne : (check l != 0) = false := by simpa using hok
  have hl31 := check_len hok
  have hn1 := (num_len l.length).2
  clear hok
  go_enter Tryd.func73, Tryd.ntmps73
  go_wp2_with (first
    | (go_at_call 38; refine (c_octet_Num b B cb _ _ (hb.below hb1)).mono ?_; rintro e w2 ⟨v2, rfl, own2, hb2⟩; have hz2 := hb2.size; obtain ⟨l2, A2, c2, H2, hl2, rfl, in2, own2'⟩ := own_open bc_len own2 (b.length + 7) (by simp only [List.length_append]; omega) (by omega); clear own2)
    | (go_at_call 23; refine (c_pred_Check l A c _ h Hs'.out).mono ?_; rintro e w1 ⟨rfl, hb1⟩; have hz1 := hb1.size))
  go_loopw [0, 18] (fun v i wr => ∃ (k : Nat) (acc : List UInt8), k ≤ l.length ∧ acc.length ≤ b.length + 7 + k * 52 ∧ i = .int .i64 k ∧ Hid (wr.ownsRow w.heap.size 5 1 v acc.length (acc.flatMap bc)) ∧ Hid (acc ++ (l.drop k).flatMap nodeB = b ++ putB l) ∧ Below w.heap.size w wr)
    (fun _ i _ => l.length - (intOf i).toNat)
  case atStart => exact ⟨0, l2, by omega, by omega, rfl, own_base own2'.out hz1, by show _ = _; rw [H2.out]; exact H.out, (by repeat (first | exact Below.refl _ _ | refine Below.drew ?_ | refine Below.alloc ?_ (by first | omega | (simp; done) | (simp; omega)) _ | refine Below.setCell ?_ (by first | omega | (simp; done) | (simp; omega)) _ | refine Below.trans ?_ (Below.mono (by assumption) (by first | omega | (simp; done) | (simp; omega)))))⟩
  case round =>
    obtain ⟨k, acc, hk, hac, rfl, O, N, hbl'⟩ := hrel
    have hbz := hbl'.size
    have hb1' := lh hb1
    have hb2' := lh hb2
    clear hb1 hb2 own2' in2
    by_cases hlt : k < l.length
    · obtain ⟨bl, off, rfl, hbb, hrow⟩ := h.at hlt
      obtain ⟨e0, e1, e2, e3, e4⟩ := (hrow.below hbl' hbb).node hlt rfl
      have hs1 := hs l[k] (List.getElem_mem hlt)
      have hN := N.out
      rw [List.drop_eq_getElem_cons hlt, List.flatMap_cons] at hN
      obtain ⟨A1, c1, rfl, in1⟩ := In.of_own bc_len O.out (by omega)
      clear h hs H N O hb
      rcases named_cases l[k].op with ⟨hnm, hvl⟩ | ⟨hnm, hvl⟩ | ⟨hnm, hvl⟩
      · rw [nodeB_A hnm hvl] at hN
        have HN := lh hN
        clear hN
        go_wp2_with (first | (go_at_call 38; refine (c_octet_Num acc A1 c1 _ _ (in1.below (by repeat (first | exact Below.refl _ _ | refine Below.drew ?_ | refine Below.alloc ?_ (by first | omega | (simp; done) | (simp; omega)) _ | refine Below.setCell ?_ (by first | omega | (simp; done) | (simp; omega)) _ | refine Below.trans ?_ (Below.mono (by assumption) (by first | omega | (simp; done) | (simp; omega))))))).mono ?_; rintro e w3 ⟨v3, rfl, own3, hb3⟩; have hz3 := hb3.size; simp only [World.size_alloc] at hz3; have q3 := fun o => hb3.cell (p := ⟨wr.heap.size, o, none⟩) (by simp); obtain ⟨l3, A3, c3, H3, hl3, rfl, in3, own3'⟩ := own_open bc_len own3 (acc.length + 7) (by have := (num_len l[k].op).2; simp only [List.length_append]; omega) (by omega); clear own3) | (go_at_call 94; refine (c_predwire_named _ _).mono ?_; rintro e w4 ⟨rfl, hb4⟩; have hz4 := hb4.size; have q4 := fun o => hb4.cell (p := ⟨wr.heap.size, o, none⟩) (by show wr.heap.size < _; omega)) | (go_at_call 95; refine (c_predwire_valued _ _).mono ?_; rintro e w5 ⟨rfl, hb5⟩; have hz5 := hb5.size))
        go_roundw
        case rel => exact ⟨k + 1, l3, by omega, by omega, by go_num, own_below (own_below (own_base own3'.out (by simp only [World.size_alloc]; omega)) hb4) hb5, by show _ = _; rw [H3.out, ← HN.out]; simp, (by repeat (first | exact Below.refl _ _ | refine Below.drew ?_ | refine Below.alloc ?_ (by first | omega | (simp; done) | (simp; omega)) _ | refine Below.setCell ?_ (by first | omega | (simp; done) | (simp; omega)) _ | refine Below.trans ?_ (Below.mono (by assumption) (by first | omega | (simp; done) | (simp; omega)))))⟩
        case measure => simp [intOf]; omega
      · rw [nodeB_B hnm hvl] at hN
        have HN := lh hN
        clear hN
        go_wp2_with (first | (go_at_call 38; refine (c_octet_Num l3 A3 c3 _ _ (in3.below hb4)).mono ?_; rintro e w6 ⟨v6, rfl, own6, hb6⟩; have hz6 := hb6.size; have q6 := fun o => hb6.cell (p := ⟨wr.heap.size, o, none⟩) (by show wr.heap.size < _; omega); obtain ⟨l6, A6, c6, H6, hl6, rfl, in6, own6'⟩ := own_open bc_len own6 (acc.length + 14) (by have := (num_len l[k].n).2; simp only [List.length_append]; omega) (by omega); clear own6) | (go_at_call 38; refine (c_octet_Num acc A1 c1 _ _ (in1.below (by repeat (first | exact Below.refl _ _ | refine Below.drew ?_ | refine Below.alloc ?_ (by first | omega | (simp; done) | (simp; omega)) _ | refine Below.setCell ?_ (by first | omega | (simp; done) | (simp; omega)) _ | refine Below.trans ?_ (Below.mono (by assumption) (by first | omega | (simp; done) | (simp; omega))))))).mono ?_; rintro e w3 ⟨v3, rfl, own3, hb3⟩; have hz3 := hb3.size; simp only [World.size_alloc] at hz3; have q3 := fun o => hb3.cell (p := ⟨wr.heap.size, o, none⟩) (by simp); obtain ⟨l3, A3, c3, H3, hl3, rfl, in3, own3'⟩ := own_open bc_len own3 (acc.length + 7) (by have := (num_len l[k].op).2; simp only [List.length_append]; omega) (by omega); clear own3) | (go_at_call 94; refine (c_predwire_named _ _).mono ?_; rintro e w4 ⟨rfl, hb4⟩; have hz4 := hb4.size; have q4 := fun o => hb4.cell (p := ⟨wr.heap.size, o, none⟩) (by show wr.heap.size < _; omega)) | (go_at_call 95; refine (c_predwire_valued _ _).mono ?_; rintro e w7 ⟨rfl, hb7⟩; have hz7 := hb7.size; have q7 := fun o => hb7.cell (p := ⟨wr.heap.size, o, none⟩) (by show wr.heap.size < _; omega)))
        go_roundw
        case rel => exact ⟨k + 1, l6, by omega, by omega, by go_num, own_below (own_base own6'.out (by omega)) hb7, by show _ = _; rw [H6.out, H3.out, ← HN.out]; simp, (by repeat (first | exact Below.refl _ _ | refine Below.drew ?_ | refine Below.alloc ?_ (by first | omega | (simp; done) | (simp; omega)) _ | refine Below.setCell ?_ (by first | omega | (simp; done) | (simp; omega)) _ | refine Below.trans ?_ (Below.mono (by assumption) (by first | omega | (simp; done) | (simp; omega)))))⟩
        case measure => simp [intOf]; omega
      · rw [nodeB_C hnm hvl] at hN
        have HN := lh hN
        clear hN
        go_wp2_with (first | (go_at_call 96; refine (c_cardwire_PutValue l6 A6 c6 l[k].v _ (in6.below hb7) (by omega) hs1).mono ?_; rintro e w8 ⟨v8, rfl, own8, hb8⟩; have hz8 := hb8.size; obtain ⟨l8, A8, c8, H8, hl8, rfl, in8, own8'⟩ := own_open bc_len own8 (acc.length + 52) (by have := valB_len l[k].v; simp only [List.length_append]; omega) (by omega); clear own8) | (go_at_call 38; refine (c_octet_Num l3 A3 c3 _ _ (in3.below hb4)).mono ?_; rintro e w6 ⟨v6, rfl, own6, hb6⟩; have hz6 := hb6.size; have q6 := fun o => hb6.cell (p := ⟨wr.heap.size, o, none⟩) (by show wr.heap.size < _; omega); obtain ⟨l6, A6, c6, H6, hl6, rfl, in6, own6'⟩ := own_open bc_len own6 (acc.length + 14) (by have := (num_len l[k].n).2; simp only [List.length_append]; omega) (by omega); clear own6) | (go_at_call 38; refine (c_octet_Num acc A1 c1 _ _ (in1.below (by repeat (first | exact Below.refl _ _ | refine Below.drew ?_ | refine Below.alloc ?_ (by first | omega | (simp; done) | (simp; omega)) _ | refine Below.setCell ?_ (by first | omega | (simp; done) | (simp; omega)) _ | refine Below.trans ?_ (Below.mono (by assumption) (by first | omega | (simp; done) | (simp; omega))))))).mono ?_; rintro e w3 ⟨v3, rfl, own3, hb3⟩; have hz3 := hb3.size; simp only [World.size_alloc] at hz3; have q3 := fun o => hb3.cell (p := ⟨wr.heap.size, o, none⟩) (by simp); obtain ⟨l3, A3, c3, H3, hl3, rfl, in3, own3'⟩ := own_open bc_len own3 (acc.length + 7) (by have := (num_len l[k].op).2; simp only [List.length_append]; omega) (by omega); clear own3) | (go_at_call 94; refine (c_predwire_named _ _).mono ?_; rintro e w4 ⟨rfl, hb4⟩; have hz4 := hb4.size; have q4 := fun o => hb4.cell (p := ⟨wr.heap.size, o, none⟩) (by show wr.heap.size < _; omega)) | (go_at_call 95; refine (c_predwire_valued _ _).mono ?_; rintro e w7 ⟨rfl, hb7⟩; have hz7 := hb7.size; have q7 := fun o => hb7.cell (p := ⟨wr.heap.size, o, none⟩) (by show wr.heap.size < _; omega)))
        go_roundw
        case rel => exact ⟨k + 1, l8, by omega, by omega, by go_num, own_base own8'.out (by omega), by show _ = _; rw [H8.out, H6.out, H3.out, ← HN.out]; simp, (by repeat (first | exact Below.refl _ _ | refine Below.drew ?_ | refine Below.alloc ?_ (by first | omega | (simp; done) | (simp; omega)) _ | refine Below.setCell ?_ (by first | omega | (simp; done) | (simp; omega)) _ | refine Below.trans ?_ (Below.mono (by assumption) (by first | omega | (simp; done) | (simp; omega)))))⟩
        case measure => simp [intOf]; omega
    · have hN := N.out
      rw [List.drop_of_length_le (by omega)] at hN
      have HN := lh hN
      obtain ⟨A1, c1, rfl, _, _⟩ := own_form O.out
      clear hN N H
      go_wp2_with (fail)
      go_ret
      exact RetS.of O.out (by omega) (by rw [← HN.out]; simp) hbl'
open Go.RowKit

theorem RdP.nil {w : World} {st : Rd} (h : RdP w none st) : st = ⟨[], 1⟩ := by
  rcases h with ⟨_, h⟩ | ⟨g, _, _, _, _, h, _⟩
  · exact h
  · cases h
theorem RdP.at {w : World} {g : Nat} {st : Rd} (h : RdP w (some g) st) : ∃ A c B pos, RdA w g A c B pos st.e ∧ st.s = B.drop pos := by
  rcases h with ⟨h, _⟩ | ⟨g', A, c, B, pos, h, ha, hs⟩
  · cases h
  · injection h with h; subst h; exact ⟨A, c, B, pos, ha, hs⟩
theorem RdP.mk {w : World} {g : Nat} {A : Option Addr} {c : Nat} {B : List UInt8} {pos : Nat} {st : Rd} (ha : RdA w g A c B pos st.e) (hs : st.s = B.drop pos) : RdP w (some g) st := .inr ⟨g, A, c, B, pos, rfl, ha, hs⟩
theorem RdP.nilmk (w : World) : RdP w none ⟨[], 1⟩ := .inl ⟨rfl, rfl⟩
theorem RetP.nil {w w' : World} {st' : Rd} {v : Value} (h : st' = ⟨[], 1⟩) (hb : Below w.heap.size w w') : RetP none st' w v (.returned v) w' := by subst h; exact ⟨rfl, RdP.nilmk _, .of_below hb⟩
theorem RetP.same {w w' : World} {p : Option Nat} {st : Rd} {v : Value} (h : RdP w p st) (hb : Below w.heap.size w w') : RetP p st w v (.returned v) w' := ⟨rfl, h.below hb, .of_below hb⟩

theorem RdA.fail {w : World} {g : Nat} {A : Option Addr} {c : Nat} {B : List UInt8} {pos : Nat} {st : Rd} {e : Int} (ha : RdA w g A c B pos st.e) (hs : st.s = B.drop pos) : RdP (w.setCell ⟨g, 2, none⟩ (.int .i64 e)) (some g) ⟨st.s, e⟩ ∧ Kept (some g) w.heap.size w (w.setCell ⟨g, 2, none⟩ (.int .i64 e)) :=
  ⟨RdP.mk (ha.store2 e) hs, (Kept.refl _ _ _).setCell (q := ⟨g, 2, none⟩) (.inr rfl) _⟩
set_option maxHeartbeats 400000 in
theorem c_octet_Err (p : Option Nat) (st : Rd) (w : World) (h : RdP w p st) : Calls Tryd.prog 45 #[ptr p] w (RetP p st w (.int .i64 st.e)) := by
  rcases p with _ | g
  · have hs := h.nil
    subst hs
    rw [ptr_none]
    go_enter Tryd.func45, Tryd.ntmps45
    go_wp2_with (fail)
    go_ret
    exact RetP.same h (by repeat (first | exact Below.refl _ _ | refine Below.drew ?_ | refine Below.alloc ?_ (by first | omega | (simp; done) | (simp; omega)) _ | refine Below.setCell ?_ (by first | omega | (simp; done) | (simp; omega)) _ | refine Below.trans ?_ (Below.mono (by assumption) (by first | omega | (simp; done) | (simp; omega)))))
  · obtain ⟨A, c, B, pos, ha, hs⟩ := h.at
    have c2 : w.cell? ⟨g, 2, none⟩ = some (.int .i64 st.e) := ha.1.cell rfl
    have Hs := lh hs
    clear hs
    rw [ptr_some]
    go_enter Tryd.func45, Tryd.ntmps45
    go_wp2_with (fail)
    go_ret
    exact RetP.same h (by repeat (first | exact Below.refl _ _ | refine Below.drew ?_ | refine Below.alloc ?_ (by first | omega | (simp; done) | (simp; omega)) _ | refine Below.setCell ?_ (by first | omega | (simp; done) | (simp; omega)) _ | refine Below.trans ?_ (Below.mono (by assumption) (by first | omega | (simp; done) | (simp; omega)))))
def RetF (p : Option Nat) (st' : Rd) (w : World) (e : Ending) (w' : World) : Prop := e = .returned (.tuple #[]) ∧ RdP w' p st' ∧ Kept p w.heap.size w w'
set_option maxHeartbeats 400000 in
theorem c_octet_Fail (p : Option Nat) (st : Rd) (e : Int) (w : World) (h : RdP w p st) : Calls Tryd.prog 81 #[ptr p, .int .i64 e] w (RetF p (rdF st e) w) := by
  rcases p with _ | g
  · have hs := h.nil
    subst hs
    rw [ptr_none, rdF_err (by decide)]
    go_enter Tryd.func81, Tryd.ntmps81
    go_wp2_with (fail)
    go_end0
    exact ⟨rfl, RdP.nilmk _, Kept.refl _ _ _⟩
  · obtain ⟨A, c, B, pos, ha, hs⟩ := h.at
    have c2 : w.cell? ⟨g, 2, none⟩ = some (.int .i64 st.e) := ha.1.cell rfl
    have f2 := ha.1.frozen 2
    have hgl := ha.1.lt
    have Hs := lh hs
    clear hs
    rw [ptr_some]
    by_cases h0 : st.e = 0
    · have hb : (st.e == 0) = true := by simpa using h0
      have hf := rdF_ok (e := e) h0
      have H0 := lh h0
      rw [hf]
      clear h0 hf
      go_enter Tryd.func81, Tryd.ntmps81
      go_wp2_with (fail)
      go_end0
      exact ⟨rfl, (ha.fail Hs.out).1, (ha.fail Hs.out).2⟩
    · have hb : (st.e == 0) = false := by simpa using h0
      rw [rdF_err h0]
      clear h0
      go_enter Tryd.func81, Tryd.ntmps81
      go_wp2_with (fail)
      go_end0
      exact ⟨rfl, h, Kept.refl _ _ _⟩
set_option maxHeartbeats 400000 in
theorem c_octet_RNum (p : Option Nat) (st : Rd) (most : Int) (w : World) (h : RdP w p st) : Calls Tryd.prog 43 #[ptr p, .int .i64 most] w (RetP p (rdN' st most) w (.int .i64 (rdN st most))) := by
  rcases p with _ | g
  · have hs := h.nil
    subst hs
    rw [ptr_none, (rdN_err (by decide)).1, (rdN_err (by decide)).2]
    go_enter Tryd.func43, Tryd.ntmps43
    go_wp2_with (fail)
    go_ret
    exact RetP.same h (by repeat (first | exact Below.refl _ _ | refine Below.drew ?_ | refine Below.alloc ?_ (by first | omega | (simp; done) | (simp; omega)) _ | refine Below.setCell ?_ (by first | omega | (simp; done) | (simp; omega)) _ | refine Below.trans ?_ (Below.mono (by assumption) (by first | omega | (simp; done) | (simp; omega)))))
  · obtain ⟨A, c, B, pos, ha, hs⟩ := h.at
    have c2 : w.cell? ⟨g, 2, none⟩ = some (.int .i64 st.e) := ha.1.cell rfl
    have Hs := lh hs
    clear hs
    rw [ptr_some]
    by_cases h0 : st.e = 0
    · have hb : (st.e != 0) = false := by simpa using h0
      have h1 : rdN st most = nVal st.s most := by unfold rdN; rw [if_pos h0]
      have h2 : rdN' st most = ⟨st.s.drop (nLen st.s most), nErr st.s most⟩ := by unfold rdN'; rw [if_pos h0]
      have ha0 : RdA w g A c B pos 0 := by rw [← h0]; exact ha
      rw [h1, h2, Hs.out]
      have H0 := lh h0
      clear h0 h1 h2
      go_enter Tryd.func43, Tryd.ntmps43
      go_wp2_with (fail)
      refine (c_octet_peek g A c B pos most _ ha0).mono ?_
      rintro e w1 ⟨rfl, hr, hk⟩
      have f1 := hr.1.frozen 1
      have c1 : w1.cell? ⟨g, 1, none⟩ = some (.int .i64 pos) := hr.1.cell rfl
      go_wp2_with (fail)
      go_ret
      refine ⟨rfl, RdP.mk (hr.store1 _ ?_) ?_, hk.setCell (q := ⟨g, 1, none⟩) (.inr rfl) _⟩
      · have := nLen_le (B.drop pos) most
        have := ha0.2.1
        rw [List.length_drop] at *; omega
      · rw [List.drop_drop]
    · have hb : (st.e != 0) = true := by simpa using h0
      rw [(rdN_err h0).1, (rdN_err h0).2]
      clear h0
      go_enter Tryd.func43, Tryd.ntmps43
      go_wp2_with (fail)
      go_ret
      exact RetP.same h (by repeat (first | exact Below.refl _ _ | refine Below.drew ?_ | refine Below.alloc ?_ (by first | omega | (simp; done) | (simp; omega)) _ | refine Below.setCell ?_ (by first | omega | (simp; done) | (simp; omega)) _ | refine Below.trans ?_ (Below.mono (by assumption) (by first | omega | (simp; done) | (simp; omega)))))
theorem bytes_elem : Tryd.prog.underlying 68 = some (.slice (Tryd.prog.elem 68)) := by kernel_rfl
theorem bytes_size (x : World) : (sizeOf (Tryd.prog.elem 68)).run Tryd.prog x = .ok 1 x := by kernel_rfl
def cutA (A : Option Addr) (c i : Nat) : Option Addr := if c = i then A else A.map (·.add i)
theorem cut_run (A : Option Addr) (c len i n : Nat) (hn : i + n ≤ len) (hc : len ≤ c) (x : World) :
    (Instr.slice 68 (.slice A len c) (some (.int .i64 i)) (some (.int .i64 ((i : Int) + (n : Int)))) none).run Tryd.prog x = .ok (.slice (cutA A c i) n (c - i)) x := by
  have hr := run_slice_lh (P := Tryd.prog) (w := x) 68 A len c bytes_elem .i64 .i64 (i : Int) ((i : Int) + (n : Int)) (by omega) (by omega) (by omega)
  rw [hr, bytes_size]
  simp only [Result.andThen, sliced]
  rw [show ((i : Int)).toNat = i by omega, show ((i : Int) + (n : Int)).toNat - i = n by omega, Nat.mul_one]
  rfl
theorem cut_in {w : World} {A : Option Addr} {c : Nat} {B : List UInt8} (h : InB w A c B) (i n : Nat) (hn : i + n ≤ B.length) : InB w (cutA A c i) (c - i) ((B.drop i).take n) := by
  have hc := h.1
  unfold cutA
  by_cases hci : c = i
  · rw [if_pos hci]
    have h0 : n = 0 := by omega
    subst h0
    rw [List.take_zero]
    exact In.nil (by have := h.2.1; omega)
  · rw [if_neg hci]
    rcases Nat.eq_zero_or_pos n with h0 | h0
    · subst h0
      rw [List.take_zero]
      exact In.nil (by have := h.2.1; omega)
    · obtain ⟨b, off, rfl, hb, hrow⟩ := h.at (i := i) (by omega)
      have := h.sub (i := i) (j := i + n) (by omega) hn ⟨hb, hrow⟩
      rw [show i + n - i = n by omega] at this
      simpa [add_lit'] using this
theorem RdA.in {w : World} {g : Nat} {A : Option Addr} {c : Nat} {B : List UInt8} {pos : Nat} {e : Int} (ha : RdA w g A c B pos e) : InB w A c B :=
  ⟨ha.2.2.1, ha.2.2.2.1, ha.2.2.2.2.1, ha.2.2.2.2.2.imp id fun ⟨b, off, hA, hb, hr⟩ => ⟨b, off, hA, by have := ha.1.lt; omega, hr⟩⟩
set_option maxHeartbeats 400000 in
theorem c_octet_RStr (p : Option Nat) (st : Rd) (most : Int) (w : World) (h : RdP w p st) : Calls Tryd.prog 85 #[ptr p, .int .i64 most] w (RetP p (rdS' st most) w (.string (str (rdS st most)))) := by
  rcases p with _ | g
  · have hs := h.nil
    subst hs
    rw [ptr_none, (rdS_err (by decide)).1, (rdS_err (by decide)).2]
    go_enter Tryd.func85, Tryd.ntmps85
    go_wp2_with (fail)
    go_ret
    exact RetP.same h (by repeat (first | exact Below.refl _ _ | refine Below.drew ?_ | refine Below.alloc ?_ (by first | omega | (simp; done) | (simp; omega)) _ | refine Below.setCell ?_ (by first | omega | (simp; done) | (simp; omega)) _ | refine Below.trans ?_ (Below.mono (by assumption) (by first | omega | (simp; done) | (simp; omega)))))
  · obtain ⟨A, c, B, pos, ha, hs⟩ := h.at
    have c2 : w.cell? ⟨g, 2, none⟩ = some (.int .i64 st.e) := ha.1.cell rfl
    have Hs := lh hs
    clear hs
    rw [ptr_some]
    by_cases h0 : st.e = 0
    case neg =>
      have hb : (st.e != 0) = true := by simpa using h0
      rw [(rdS_err h0).1, (rdS_err h0).2]
      clear h0
      go_enter Tryd.func85, Tryd.ntmps85
      go_wp2_with (fail)
      go_ret
      exact RetP.same h (by repeat (first | exact Below.refl _ _ | refine Below.drew ?_ | refine Below.alloc ?_ (by first | omega | (simp; done) | (simp; omega)) _ | refine Below.setCell ?_ (by first | omega | (simp; done) | (simp; omega)) _ | refine Below.trans ?_ (Below.mono (by assumption) (by first | omega | (simp; done) | (simp; omega)))))
    have hb : (st.e != 0) = false := by simpa using h0
    have ha0 : RdA w g A c B pos 0 := by rw [← h0]; exact ha
    have H0 := lh h0
    clear h0 ha
    have hL := ha0.2.1
    have hC := ha0.2.2.1
    have hC' := ha0.2.2.2.1
    have hS := ha0.2.2.2.2.1
    obtain ⟨er, her⟩ : ∃ er, er = nErr (B.drop pos) most := ⟨_, rfl⟩
    obtain ⟨v, hv⟩ : ∃ v, v = nVal (B.drop pos) most := ⟨_, rfl⟩
    obtain ⟨tt, hto⟩ : ∃ tt, tt = pos + nLen (B.drop pos) most := ⟨_, rfl⟩
    by_cases he : er = 0
    case neg =>
      have h1 : rdS st most = [] := by unfold rdS tErr; rw [if_neg]; rw [Hs.out]; intro k; rw [← her, if_neg he] at k; exact he k.2
      have h2 : rdS' st most = ⟨st.s, er⟩ := by unfold rdS' tErr; rw [Hs.out, if_pos H0.out, ← her, if_neg he, if_neg he]
      rw [h1, h2]
      have hne : (er != 0) = true := by simpa using he
      clear h1 h2 he
      have Her := lh her
      have Hv := lh hv
      have Hto := lh hto
      clear her hv hto
      go_enter Tryd.func85, Tryd.ntmps85
      go_wp2_with (fail)
      refine (c_octet_peek g A c B pos most _ ha0).mono ?_
      rintro e w1 ⟨rfl, hr, hk⟩
      rw [← Hto.out, ← Hv.out]
      rw [← Her.out] at hr
      have d2 : w1.cell? ⟨g, 2, none⟩ = some (.int .i64 er) := hr.1.cell rfl
      clear c2
      go_wp2_with (fail)
      go_ret
      exact ⟨rfl, RdP.mk hr Hs.out, hk⟩
    have hn0 : nErr (B.drop pos) most = 0 := her.symm.trans he
    have hv' : v = nxV 6 (B.drop pos) := hv.trans (nVal_ok hn0)
    have hto' : tt = pos + nxK 6 (B.drop pos) := by rw [hto, nLen_ok hn0]
    obtain ⟨n, hn⟩ : ∃ n : Nat, n = nxV 6 (B.drop pos) := ⟨_, rfl⟩
    have hvn : v = (n : Int) := by rw [hv', hn]
    have hn40 : n ≤ 1099511627776 := by rw [hn]; exact (nErr_ok hn0).2.1
    have htl : tt ≤ B.length := by have := nxK_le 6 (B.drop pos); rw [List.length_drop] at this; omega
    have hdl : (B.drop pos).length - nxK 6 (B.drop pos) = B.length - tt := by rw [List.length_drop]; omega
    by_cases hlong : n ≤ B.length - tt
    case neg =>
      have ht : tErr st.s most = 2 := by unfold tErr; rw [Hs.out, if_pos hn0, ← hn, hdl, if_neg hlong]
      have h1 : rdS st most = [] := by unfold rdS; rw [if_neg]; intro k; rw [ht] at k; exact absurd k.2 (by decide)
      have h2 : rdS' st most = ⟨st.s, 2⟩ := by unfold rdS'; rw [if_pos H0.out, if_neg (by rw [ht]; decide), ht]
      rw [h1, h2]
      have hgt : (B.length : Int) - (tt : Int) < (n : Int) := by omega
      clear h1 h2 ht hdl hv' hto' hn hlong
      have Hn0 := lh hn0
      have Hv := lh (hv.symm.trans hvn)
      have Hto := lh hto
      clear her hv hto hn0 hvn he
      go_enter Tryd.func85, Tryd.ntmps85
      go_wp2_with (fail)
      refine (c_octet_peek g A c B pos most _ ha0).mono ?_
      rintro e w1 ⟨rfl, hr, hk⟩
      rw [← Hto.out, Hv.out]
      rw [Hn0.out] at hr
      have d2 : w1.cell? ⟨g, 2, none⟩ = some (.int .i64 0) := hr.1.cell rfl
      have d0 : w1.cell? ⟨g, 0, none⟩ = some (.slice A B.length c) := hr.1.cell rfl
      have f2 := hr.1.frozen 2
      clear c2
      go_wp2_with (fail)
      go_ret
      exact ⟨rfl, RdP.mk (hr.store2 2) Hs.out, hk.setCell (q := ⟨g, 2, none⟩) (.inr rfl) _⟩
    have ht : tErr st.s most = 0 := by unfold tErr; rw [Hs.out, if_pos hn0, ← hn, hdl, if_pos hlong]
    have h1 : rdS st most = (B.drop tt).take n := by unfold rdS; rw [if_pos ⟨H0.out, ht⟩, Hs.out, List.drop_drop, ← hto', ← hn]
    have h2 : rdS' st most = ⟨B.drop (tt + n), 0⟩ := by unfold rdS'; rw [if_pos H0.out, if_pos ht, Hs.out, List.drop_drop, ← hn, hto', Nat.add_assoc]
    have hle : tt + n ≤ B.length := by omega
    have hgt : ¬ (B.length : Int) - (tt : Int) < (n : Int) := by omega
    rw [h1, h2]
    clear h1 h2 ht hdl hv' hto' hn hlong
    have Hn0 := lh hn0
    have Hv := lh (hv.symm.trans hvn)
    have Hto := lh hto
    clear her hv hto hn0 hvn he
    go_enter Tryd.func85, Tryd.ntmps85
    go_wp2_with (fail)
    refine (c_octet_peek g A c B pos most _ ha0).mono ?_
    rintro e w1 ⟨rfl, hr, hk⟩
    rw [← Hto.out, Hv.out]
    rw [Hn0.out] at hr
    have d2 : w1.cell? ⟨g, 2, none⟩ = some (.int .i64 0) := hr.1.cell rfl
    have d0 : w1.cell? ⟨g, 0, none⟩ = some (.slice A B.length c) := hr.1.cell rfl
    have d1 : w1.cell? ⟨g, 1, none⟩ = some (.int .i64 pos) := hr.1.cell rfl
    have f1 := hr.1.frozen 1
    have hg1 := hr.1.lt
    have hlen : ((B.drop tt).take n).length = n := by rw [List.length_take, List.length_drop]; omega
    have hcut := cut_run A c B.length tt n hle hC
    have r2 : RdA (w1.setCell ⟨g, 1, none⟩ (.int .i64 ((tt : Int) + (n : Int)))) g A c B (tt + n) 0 := by have := hr.store1 (tt + n) hle; rwa [Int.natCast_add] at this
    have hin2 := cut_in r2.in tt n hle
    obtain ⟨txt, htxt⟩ : ∃ txt, txt = (B.drop tt).take n := ⟨_, rfl⟩
    obtain ⟨A', hA'⟩ : ∃ A', A' = cutA A c tt := ⟨_, rfl⟩
    rw [← htxt] at hin2 hlen ⊢
    rw [← hA'] at hin2 hcut
    have kc : ∀ x : World, InB x A' (c - tt) txt → (convert 68 9 (.slice A' n (c - tt))).run Tryd.prog x = .ok (.string (str txt)) x := fun x hx => by
      have := conv_str (P := Tryd.prog) x (src := 68) (dst := 9) (e := 5) Tryd.underlying68 Tryd.underlying5 Tryd.underlying9 hx
      rw [hlen] at this
      exact this
    have hw : IntKind.i64.wrap ((tt : Int) + (n : Int)) = (tt : Int) + (n : Int) := IntWalk.i64_in _ (by omega)
    have kc2 := fun y : Grow (w1.setCell ⟨g, 1, none⟩ (.int .i64 ((tt : Int) + (n : Int)))) => kc _ (In.grow hin2 y)
    have Htxt := lh htxt
    clear c2 hlen htxt hA' kc
    have Hin2 := lh hin2
    have R2 := lh r2
    have Hle := lh hle
    clear hin2 r2 hle
    go_wp2_with (fail)
    refine wp_region_grow (by kernel_rfl) (by kernel_rfl) ?_
    repeat (quiet_step ((first | (fail))))
    refine wpQuiet_nil ?_
    intro w3 hb3
    go_wp2_with (fail)
    go_ret
    exact ⟨by rw [← Htxt.out]; rfl, (RdP.mk R2.out rfl).below hb3, (hk.setCell (q := ⟨g, 1, none⟩) (.inr rfl) _).then_below hb3 (by simp [World.setCell]; exact hk.size)⟩
open Go.RowKit

theorem Blk.three {w : World} {g : Nat} {a b c : Value} (h : Blk w g #[a, b, c]) : w.cell? ⟨g, 0, none⟩ = some a ∧ w.cell? ⟨g, 1, none⟩ = some b ∧ w.cell? ⟨g, 2, none⟩ = some c ∧ ∀ i, w.frozen? ⟨g, i, none⟩ = false :=
  ⟨h.cell rfl, h.cell rfl, h.cell rfl, fun i => h.frozen i⟩
theorem RdP.own {w w' : World} {p : Option Nat} {st : Rd} {b : Nat} (r : RdP w p st) (k : Kept (some b) w.heap.size w w') (hb : ∀ g, p = some g → g < b) : RdP w' p st :=
  r.kept k (fun g h hg hh => by injection hh with hh; subst hh; exact hb g hg)
theorem RdP.up {w w' : World} {p : Option Nat} {st : Rd} {B : Nat} (r : RdP w p st) (k : Below B w w') (hb : ∀ g, p = some g → g < B) : RdP w' p st := by
  rcases r with ⟨rfl, hs⟩ | ⟨g, A, c, L, pos, rfl, ⟨h1, h2, h3, h4, h5, h6⟩, hs⟩
  · exact .inl ⟨rfl, hs⟩
  · have hg := hb g rfl
    exact .inr ⟨g, A, c, L, pos, rfl, ⟨h1.below k hg, h2, h3, h4, h5, h6.imp id fun ⟨b, off, hA, hbg, hr⟩ => ⟨b, off, hA, hbg, hr.belowB k (by omega)⟩⟩, hs⟩
theorem RdR.up {w w' : World} {h : Nat} {st : Rd} {B : Nat} (r : RdR w h st) (k : Below B w w') (hb : h < B) : RdR w' h st := ⟨r.1.below k hb, r.2⟩
theorem ne_of_lt {p : Option Nat} {n b : Nat} (h : ∀ g, p = some g → g < n) (hb : n ≤ b) : p ≠ some b := fun e => by have := h b e; omega
set_option maxHeartbeats 2000000 in
set_option maxRecDepth 4000 in
theorem c_cardwire_Value (p : Option Nat) (st : Rd) (w : World) (h : RdP w p st) : Calls Tryd.prog 100 #[ptr p] w (RetP p (rdVal' st) w (rdVal st).val) := by
  unfold Val.val
  have hpl := fun g (hg : p = some g) => h.lt hg
  rcases rdN2_cases st with h0 | h0 | h0
  · have h1 := rdVal'_0 h0
    by_cases he : (rdN' st 2).e = 0
    · have hb : ((rdN' st 2).e != 0) = false := by simpa using he
      have hv := rdVal_0 (by rw [h1]; exact he) h0
      rw [h1, hv]
      have H0 := lh h0
      clear he hv h1 h0
      go_enter Tryd.func100, Tryd.ntmps100
      go_wp2_with (fail)
      refine (c_octet_RNum p st 2 _ (h.below ((Below.refl _ _).alloc (Nat.le_refl _) _))).mono ?_
      rintro e w1 ⟨rfl, hr1, hk1⟩
      rw [H0.out]
      have hz1 := hk1.size
      simp only [World.size_alloc] at hz1
      have B0 := lh ((Blk.new w 25 #[.int .i64 0, .int .i64 0, .string (str [])]).kept hk1 (by simp) (ne_of_lt hpl (Nat.le_refl _)))
      go_wp2_with (fail)
      refine (c_octet_Err p (rdN' st 2) _ (hr1.below ((Below.refl _ _).alloc (Nat.le_refl _) _))).mono ?_
      rintro e w2 ⟨rfl, hr2, hk2⟩
      have hz2 := hk2.size
      simp only [World.size_alloc] at hz2
      obtain ⟨a0, a1, a2, af⟩ := ((B0.out.below ((Below.refl _ _).alloc (Nat.le_refl _) _) B0.out.lt).kept hk2 (by simp; omega) (ne_of_lt hpl (Nat.le_refl _))).three
      obtain ⟨b0, b1, b2, bf⟩ := ((Blk.new w1 25 #[.int .i64 0, .int .i64 0, .string (str [])]).kept hk2 (by simp) (ne_of_lt hpl (by omega))).three
      go_wp2_with (fail)
      refine bodyPost_ret (v := .agg #[.int .i64 0, .int .i64 0, .string (str [])]) (by simp [results, Tryd.results100, go_sem, a0, a1, a2]) rfl ⟨rfl, hr2.own (b := w.heap.size) (by repeat (first | exact Kept.refl _ _ _ | refine Kept.drew ?_ | refine Kept.alloc ?_ (by first | omega | (simp; done) | (simp; omega)) _ | refine Kept.setCell ?_ (by first | (right; rfl) | (left; first | omega | (simp; done) | (simp; omega))) _ | refine Kept.then_kept ?_ (by assumption) (by first | omega | (simp; done) | (simp; omega)) | refine Kept.then_below ?_ (by assumption) (by first | omega | (simp; done) | (simp; omega)) | refine Kept.low ?_ (by assumption))) hpl, (by repeat (first | exact Kept.refl _ _ _ | refine Kept.drew ?_ | refine Kept.alloc ?_ (by first | omega | (simp; done) | (simp; omega)) _ | refine Kept.setCell ?_ (by first | (right; rfl) | (left; first | omega | (simp; done) | (simp; omega))) _ | refine Kept.then_kept ?_ (by assumption) (by first | omega | (simp; done) | (simp; omega)) | refine Kept.then_below ?_ (by assumption) (by first | omega | (simp; done) | (simp; omega)) | refine Kept.low ?_ (by assumption)))⟩
    · have hb : ((rdN' st 2).e != 0) = true := by simpa using he
      have hv := rdVal_bad (by rw [h1]; exact he)
      rw [h1, hv]
      have H0 := lh h0
      clear he hv h1 h0
      go_enter Tryd.func100, Tryd.ntmps100
      go_wp2_with (fail)
      refine (c_octet_RNum p st 2 _ (h.below ((Below.refl _ _).alloc (Nat.le_refl _) _))).mono ?_
      rintro e w1 ⟨rfl, hr1, hk1⟩
      rw [H0.out]
      have hz1 := hk1.size
      simp only [World.size_alloc] at hz1
      have B0 := lh ((Blk.new w 25 #[.int .i64 0, .int .i64 0, .string (str [])]).kept hk1 (by simp) (ne_of_lt hpl (Nat.le_refl _)))
      go_wp2_with (fail)
      refine (c_octet_Err p (rdN' st 2) _ (hr1.below ((Below.refl _ _).alloc (Nat.le_refl _) _))).mono ?_
      rintro e w2 ⟨rfl, hr2, hk2⟩
      have hz2 := hk2.size
      simp only [World.size_alloc] at hz2
      obtain ⟨a0, a1, a2, af⟩ := ((B0.out.below ((Below.refl _ _).alloc (Nat.le_refl _) _) B0.out.lt).kept hk2 (by simp; omega) (ne_of_lt hpl (Nat.le_refl _))).three
      obtain ⟨b0, b1, b2, bf⟩ := ((Blk.new w1 25 #[.int .i64 0, .int .i64 0, .string (str [])]).kept hk2 (by simp) (ne_of_lt hpl (by omega))).three
      go_wp2_with (fail)
      refine bodyPost_ret (v := .agg #[.int .i64 0, .int .i64 0, .string (str [])]) (by simp [results, Tryd.results100, go_sem, a0, a1, a2]) rfl ⟨rfl, hr2.own (b := w.heap.size) (by repeat (first | exact Kept.refl _ _ _ | refine Kept.drew ?_ | refine Kept.alloc ?_ (by first | omega | (simp; done) | (simp; omega)) _ | refine Kept.setCell ?_ (by first | (right; rfl) | (left; first | omega | (simp; done) | (simp; omega))) _ | refine Kept.then_kept ?_ (by assumption) (by first | omega | (simp; done) | (simp; omega)) | refine Kept.then_below ?_ (by assumption) (by first | omega | (simp; done) | (simp; omega)) | refine Kept.low ?_ (by assumption))) hpl, (by repeat (first | exact Kept.refl _ _ _ | refine Kept.drew ?_ | refine Kept.alloc ?_ (by first | omega | (simp; done) | (simp; omega)) _ | refine Kept.setCell ?_ (by first | (right; rfl) | (left; first | omega | (simp; done) | (simp; omega))) _ | refine Kept.then_kept ?_ (by assumption) (by first | omega | (simp; done) | (simp; omega)) | refine Kept.then_below ?_ (by assumption) (by first | omega | (simp; done) | (simp; omega)) | refine Kept.low ?_ (by assumption)))⟩
  · have h1 := rdVal'_1 h0
    by_cases he : (rdN' (rdN' st 2) 1099511627776).e = 0
    · have hb : ((rdN' (rdN' st 2) 1099511627776).e != 0) = false := by simpa using he
      have hv := rdVal_1 (by rw [h1]; exact he) h0
      rw [h1, hv]
      have H0 := lh h0
      clear he hv h1 h0
      go_enter Tryd.func100, Tryd.ntmps100
      go_wp2_with (fail)
      refine (c_octet_RNum p st 2 _ (h.below ((Below.refl _ _).alloc (Nat.le_refl _) _))).mono ?_
      rintro e w1 ⟨rfl, hr1, hk1⟩
      rw [H0.out]
      have hz1 := hk1.size
      simp only [World.size_alloc] at hz1
      have B0 := lh ((Blk.new w 25 #[.int .i64 0, .int .i64 0, .string (str [])]).kept hk1 (by simp) (ne_of_lt hpl (Nat.le_refl _)))
      go_wp2_with (fail)
      refine (c_octet_RNum p (rdN' st 2) 1099511627776 _ (hr1.below ((Below.refl _ _).alloc (Nat.le_refl _) _))).mono ?_
      rintro e w2 ⟨rfl, hr2, hk2⟩
      have hz2 := hk2.size
      simp only [World.size_alloc] at hz2
      have B1 := lh ((B0.out.below ((Below.refl _ _).alloc (Nat.le_refl _) _) B0.out.lt).kept hk2 (by simp; omega) (ne_of_lt hpl (Nat.le_refl _)))
      have C1 := lh ((Blk.new w1 25 #[.int .i64 1, .int .i64 0, .string (str [])]).kept hk2 (by simp) (ne_of_lt hpl (by omega)))
      obtain ⟨b0, b1, b2, bf⟩ := C1.out.three
      go_wp2_with (fail)
      refine (c_octet_Err p (rdN' (rdN' st 2) 1099511627776) _ (hr2.own (b := w1.heap.size) (by repeat (first | exact Kept.refl _ _ _ | refine Kept.drew ?_ | refine Kept.alloc ?_ (by first | omega | (simp; done) | (simp; omega)) _ | refine Kept.setCell ?_ (by first | (right; rfl) | (left; first | omega | (simp; done) | (simp; omega))) _ | refine Kept.then_kept ?_ (by assumption) (by first | omega | (simp; done) | (simp; omega)) | refine Kept.then_below ?_ (by assumption) (by first | omega | (simp; done) | (simp; omega)) | refine Kept.low ?_ (by assumption))) (fun g hg => by have := hpl g hg; omega))).mono ?_
      rintro e w3 ⟨rfl, hr3, hk3⟩
      have hz3 := hk3.size
      have hz3' : w2.heap.size ≤ w3.heap.size := by simpa [World.setCell] using hz3
      clear b0 b1 b2 bf hz3
      obtain ⟨a0, a1, a2, af⟩ := ((B1.out.far (q := ⟨w1.heap.size, 1, none⟩) (by simp; omega) _).kept hk3 (by simp [World.setCell]; omega) (ne_of_lt hpl (Nat.le_refl _))).three
      obtain ⟨b0, b1, b2, bf⟩ := (((C1.out.store 1 (.int .i64 (rdN (rdN' st 2) 1099511627776))).kept hk3 (by simp [World.setCell]; omega) (ne_of_lt hpl (by omega)) : Blk w3 w1.heap.size #[.int .i64 1, .int .i64 (rdN (rdN' st 2) 1099511627776), .string (str [])])).three
      go_wp2_with (fail)
      refine bodyPost_ret (v := .agg #[.int .i64 1, .int .i64 (rdN (rdN' st 2) 1099511627776), .string (str [])]) (by simp [results, Tryd.results100, go_sem, a0, a1, a2]) rfl ⟨rfl, hr3.own (b := w.heap.size) (by repeat (first | exact Kept.refl _ _ _ | refine Kept.drew ?_ | refine Kept.alloc ?_ (by first | omega | (simp; done) | (simp; omega)) _ | refine Kept.setCell ?_ (by first | (right; rfl) | (left; first | omega | (simp; done) | (simp; omega))) _ | refine Kept.then_kept ?_ (by assumption) (by first | omega | (simp; done) | (simp; omega)) | refine Kept.then_below ?_ (by assumption) (by first | omega | (simp; done) | (simp; omega)) | refine Kept.low ?_ (by assumption))) hpl, (by repeat (first | exact Kept.refl _ _ _ | refine Kept.drew ?_ | refine Kept.alloc ?_ (by first | omega | (simp; done) | (simp; omega)) _ | refine Kept.setCell ?_ (by first | (right; rfl) | (left; first | omega | (simp; done) | (simp; omega))) _ | refine Kept.then_kept ?_ (by assumption) (by first | omega | (simp; done) | (simp; omega)) | refine Kept.then_below ?_ (by assumption) (by first | omega | (simp; done) | (simp; omega)) | refine Kept.low ?_ (by assumption)))⟩
    · have hb : ((rdN' (rdN' st 2) 1099511627776).e != 0) = true := by simpa using he
      have hv := rdVal_bad (by rw [h1]; exact he)
      rw [h1, hv]
      have H0 := lh h0
      clear he hv h1 h0
      go_enter Tryd.func100, Tryd.ntmps100
      go_wp2_with (fail)
      refine (c_octet_RNum p st 2 _ (h.below ((Below.refl _ _).alloc (Nat.le_refl _) _))).mono ?_
      rintro e w1 ⟨rfl, hr1, hk1⟩
      rw [H0.out]
      have hz1 := hk1.size
      simp only [World.size_alloc] at hz1
      have B0 := lh ((Blk.new w 25 #[.int .i64 0, .int .i64 0, .string (str [])]).kept hk1 (by simp) (ne_of_lt hpl (Nat.le_refl _)))
      go_wp2_with (fail)
      refine (c_octet_RNum p (rdN' st 2) 1099511627776 _ (hr1.below ((Below.refl _ _).alloc (Nat.le_refl _) _))).mono ?_
      rintro e w2 ⟨rfl, hr2, hk2⟩
      have hz2 := hk2.size
      simp only [World.size_alloc] at hz2
      have B1 := lh ((B0.out.below ((Below.refl _ _).alloc (Nat.le_refl _) _) B0.out.lt).kept hk2 (by simp; omega) (ne_of_lt hpl (Nat.le_refl _)))
      have C1 := lh ((Blk.new w1 25 #[.int .i64 1, .int .i64 0, .string (str [])]).kept hk2 (by simp) (ne_of_lt hpl (by omega)))
      obtain ⟨b0, b1, b2, bf⟩ := C1.out.three
      go_wp2_with (fail)
      refine (c_octet_Err p (rdN' (rdN' st 2) 1099511627776) _ (hr2.own (b := w1.heap.size) (by repeat (first | exact Kept.refl _ _ _ | refine Kept.drew ?_ | refine Kept.alloc ?_ (by first | omega | (simp; done) | (simp; omega)) _ | refine Kept.setCell ?_ (by first | (right; rfl) | (left; first | omega | (simp; done) | (simp; omega))) _ | refine Kept.then_kept ?_ (by assumption) (by first | omega | (simp; done) | (simp; omega)) | refine Kept.then_below ?_ (by assumption) (by first | omega | (simp; done) | (simp; omega)) | refine Kept.low ?_ (by assumption))) (fun g hg => by have := hpl g hg; omega))).mono ?_
      rintro e w3 ⟨rfl, hr3, hk3⟩
      have hz3 := hk3.size
      have hz3' : w2.heap.size ≤ w3.heap.size := by simpa [World.setCell] using hz3
      clear b0 b1 b2 bf hz3
      obtain ⟨a0, a1, a2, af⟩ := ((B1.out.far (q := ⟨w1.heap.size, 1, none⟩) (by simp; omega) _).kept hk3 (by simp [World.setCell]; omega) (ne_of_lt hpl (Nat.le_refl _))).three
      obtain ⟨b0, b1, b2, bf⟩ := (((C1.out.store 1 (.int .i64 (rdN (rdN' st 2) 1099511627776))).kept hk3 (by simp [World.setCell]; omega) (ne_of_lt hpl (by omega)) : Blk w3 w1.heap.size #[.int .i64 1, .int .i64 (rdN (rdN' st 2) 1099511627776), .string (str [])])).three
      go_wp2_with (fail)
      refine bodyPost_ret (v := .agg #[.int .i64 0, .int .i64 0, .string (str [])]) (by simp [results, Tryd.results100, go_sem, a0, a1, a2]) rfl ⟨rfl, hr3.own (b := w.heap.size) (by repeat (first | exact Kept.refl _ _ _ | refine Kept.drew ?_ | refine Kept.alloc ?_ (by first | omega | (simp; done) | (simp; omega)) _ | refine Kept.setCell ?_ (by first | (right; rfl) | (left; first | omega | (simp; done) | (simp; omega))) _ | refine Kept.then_kept ?_ (by assumption) (by first | omega | (simp; done) | (simp; omega)) | refine Kept.then_below ?_ (by assumption) (by first | omega | (simp; done) | (simp; omega)) | refine Kept.low ?_ (by assumption))) hpl, (by repeat (first | exact Kept.refl _ _ _ | refine Kept.drew ?_ | refine Kept.alloc ?_ (by first | omega | (simp; done) | (simp; omega)) _ | refine Kept.setCell ?_ (by first | (right; rfl) | (left; first | omega | (simp; done) | (simp; omega))) _ | refine Kept.then_kept ?_ (by assumption) (by first | omega | (simp; done) | (simp; omega)) | refine Kept.then_below ?_ (by assumption) (by first | omega | (simp; done) | (simp; omega)) | refine Kept.low ?_ (by assumption)))⟩
  · have h1 := rdVal'_2 h0
    by_cases he : (rdS' (rdN' st 2) 24).e = 0
    · have hb : ((rdS' (rdN' st 2) 24).e != 0) = false := by simpa using he
      have hv := rdVal_2 (by rw [h1]; exact he) h0
      rw [h1, hv]
      have H0 := lh h0
      clear he hv h1 h0
      go_enter Tryd.func100, Tryd.ntmps100
      go_wp2_with (fail)
      refine (c_octet_RNum p st 2 _ (h.below ((Below.refl _ _).alloc (Nat.le_refl _) _))).mono ?_
      rintro e w1 ⟨rfl, hr1, hk1⟩
      rw [H0.out]
      have hz1 := hk1.size
      simp only [World.size_alloc] at hz1
      have B0 := lh ((Blk.new w 25 #[.int .i64 0, .int .i64 0, .string (str [])]).kept hk1 (by simp) (ne_of_lt hpl (Nat.le_refl _)))
      go_wp2_with (fail)
      refine (c_octet_RStr p (rdN' st 2) 24 _ (hr1.below ((Below.refl _ _).alloc (Nat.le_refl _) _))).mono ?_
      rintro e w2 ⟨rfl, hr2, hk2⟩
      have hz2 := hk2.size
      simp only [World.size_alloc] at hz2
      have B1 := lh ((B0.out.below ((Below.refl _ _).alloc (Nat.le_refl _) _) B0.out.lt).kept hk2 (by simp; omega) (ne_of_lt hpl (Nat.le_refl _)))
      have C1 := lh ((Blk.new w1 25 #[.int .i64 2, .int .i64 0, .string (str [])]).kept hk2 (by simp) (ne_of_lt hpl (by omega)))
      obtain ⟨b0, b1, b2, bf⟩ := C1.out.three
      go_wp2_with (fail)
      refine (c_octet_Err p (rdS' (rdN' st 2) 24) _ (hr2.own (b := w1.heap.size) (by repeat (first | exact Kept.refl _ _ _ | refine Kept.drew ?_ | refine Kept.alloc ?_ (by first | omega | (simp; done) | (simp; omega)) _ | refine Kept.setCell ?_ (by first | (right; rfl) | (left; first | omega | (simp; done) | (simp; omega))) _ | refine Kept.then_kept ?_ (by assumption) (by first | omega | (simp; done) | (simp; omega)) | refine Kept.then_below ?_ (by assumption) (by first | omega | (simp; done) | (simp; omega)) | refine Kept.low ?_ (by assumption))) (fun g hg => by have := hpl g hg; omega))).mono ?_
      rintro e w3 ⟨rfl, hr3, hk3⟩
      have hz3 := hk3.size
      have hz3' : w2.heap.size ≤ w3.heap.size := by simpa [World.setCell] using hz3
      clear b0 b1 b2 bf hz3
      obtain ⟨a0, a1, a2, af⟩ := ((B1.out.far (q := ⟨w1.heap.size, 2, none⟩) (by simp; omega) _).kept hk3 (by simp [World.setCell]; omega) (ne_of_lt hpl (Nat.le_refl _))).three
      obtain ⟨b0, b1, b2, bf⟩ := (((C1.out.store 2 (.string (str (rdS (rdN' st 2) 24)))).kept hk3 (by simp [World.setCell]; omega) (ne_of_lt hpl (by omega)) : Blk w3 w1.heap.size #[.int .i64 2, .int .i64 0, .string (str (rdS (rdN' st 2) 24))])).three
      go_wp2_with (fail)
      refine bodyPost_ret (v := .agg #[.int .i64 2, .int .i64 0, .string (str (rdS (rdN' st 2) 24))]) (by simp [results, Tryd.results100, go_sem, a0, a1, a2]) rfl ⟨rfl, hr3.own (b := w.heap.size) (by repeat (first | exact Kept.refl _ _ _ | refine Kept.drew ?_ | refine Kept.alloc ?_ (by first | omega | (simp; done) | (simp; omega)) _ | refine Kept.setCell ?_ (by first | (right; rfl) | (left; first | omega | (simp; done) | (simp; omega))) _ | refine Kept.then_kept ?_ (by assumption) (by first | omega | (simp; done) | (simp; omega)) | refine Kept.then_below ?_ (by assumption) (by first | omega | (simp; done) | (simp; omega)) | refine Kept.low ?_ (by assumption))) hpl, (by repeat (first | exact Kept.refl _ _ _ | refine Kept.drew ?_ | refine Kept.alloc ?_ (by first | omega | (simp; done) | (simp; omega)) _ | refine Kept.setCell ?_ (by first | (right; rfl) | (left; first | omega | (simp; done) | (simp; omega))) _ | refine Kept.then_kept ?_ (by assumption) (by first | omega | (simp; done) | (simp; omega)) | refine Kept.then_below ?_ (by assumption) (by first | omega | (simp; done) | (simp; omega)) | refine Kept.low ?_ (by assumption)))⟩
    · have hb : ((rdS' (rdN' st 2) 24).e != 0) = true := by simpa using he
      have hv := rdVal_bad (by rw [h1]; exact he)
      rw [h1, hv]
      have H0 := lh h0
      clear he hv h1 h0
      go_enter Tryd.func100, Tryd.ntmps100
      go_wp2_with (fail)
      refine (c_octet_RNum p st 2 _ (h.below ((Below.refl _ _).alloc (Nat.le_refl _) _))).mono ?_
      rintro e w1 ⟨rfl, hr1, hk1⟩
      rw [H0.out]
      have hz1 := hk1.size
      simp only [World.size_alloc] at hz1
      have B0 := lh ((Blk.new w 25 #[.int .i64 0, .int .i64 0, .string (str [])]).kept hk1 (by simp) (ne_of_lt hpl (Nat.le_refl _)))
      go_wp2_with (fail)
      refine (c_octet_RStr p (rdN' st 2) 24 _ (hr1.below ((Below.refl _ _).alloc (Nat.le_refl _) _))).mono ?_
      rintro e w2 ⟨rfl, hr2, hk2⟩
      have hz2 := hk2.size
      simp only [World.size_alloc] at hz2
      have B1 := lh ((B0.out.below ((Below.refl _ _).alloc (Nat.le_refl _) _) B0.out.lt).kept hk2 (by simp; omega) (ne_of_lt hpl (Nat.le_refl _)))
      have C1 := lh ((Blk.new w1 25 #[.int .i64 2, .int .i64 0, .string (str [])]).kept hk2 (by simp) (ne_of_lt hpl (by omega)))
      obtain ⟨b0, b1, b2, bf⟩ := C1.out.three
      go_wp2_with (fail)
      refine (c_octet_Err p (rdS' (rdN' st 2) 24) _ (hr2.own (b := w1.heap.size) (by repeat (first | exact Kept.refl _ _ _ | refine Kept.drew ?_ | refine Kept.alloc ?_ (by first | omega | (simp; done) | (simp; omega)) _ | refine Kept.setCell ?_ (by first | (right; rfl) | (left; first | omega | (simp; done) | (simp; omega))) _ | refine Kept.then_kept ?_ (by assumption) (by first | omega | (simp; done) | (simp; omega)) | refine Kept.then_below ?_ (by assumption) (by first | omega | (simp; done) | (simp; omega)) | refine Kept.low ?_ (by assumption))) (fun g hg => by have := hpl g hg; omega))).mono ?_
      rintro e w3 ⟨rfl, hr3, hk3⟩
      have hz3 := hk3.size
      have hz3' : w2.heap.size ≤ w3.heap.size := by simpa [World.setCell] using hz3
      clear b0 b1 b2 bf hz3
      obtain ⟨a0, a1, a2, af⟩ := ((B1.out.far (q := ⟨w1.heap.size, 2, none⟩) (by simp; omega) _).kept hk3 (by simp [World.setCell]; omega) (ne_of_lt hpl (Nat.le_refl _))).three
      obtain ⟨b0, b1, b2, bf⟩ := (((C1.out.store 2 (.string (str (rdS (rdN' st 2) 24)))).kept hk3 (by simp [World.setCell]; omega) (ne_of_lt hpl (by omega)) : Blk w3 w1.heap.size #[.int .i64 2, .int .i64 0, .string (str (rdS (rdN' st 2) 24))])).three
      go_wp2_with (fail)
      refine bodyPost_ret (v := .agg #[.int .i64 0, .int .i64 0, .string (str [])]) (by simp [results, Tryd.results100, go_sem, a0, a1, a2]) rfl ⟨rfl, hr3.own (b := w.heap.size) (by repeat (first | exact Kept.refl _ _ _ | refine Kept.drew ?_ | refine Kept.alloc ?_ (by first | omega | (simp; done) | (simp; omega)) _ | refine Kept.setCell ?_ (by first | (right; rfl) | (left; first | omega | (simp; done) | (simp; omega))) _ | refine Kept.then_kept ?_ (by assumption) (by first | omega | (simp; done) | (simp; omega)) | refine Kept.then_below ?_ (by assumption) (by first | omega | (simp; done) | (simp; omega)) | refine Kept.low ?_ (by assumption))) hpl, (by repeat (first | exact Kept.refl _ _ _ | refine Kept.drew ?_ | refine Kept.alloc ?_ (by first | omega | (simp; done) | (simp; omega)) _ | refine Kept.setCell ?_ (by first | (right; rfl) | (left; first | omega | (simp; done) | (simp; omega))) _ | refine Kept.then_kept ?_ (by assumption) (by first | omega | (simp; done) | (simp; omega)) | refine Kept.then_below ?_ (by assumption) (by first | omega | (simp; done) | (simp; omega)) | refine Kept.low ?_ (by assumption)))⟩
open Go.RowKit

def belowOf (op : Int) : Int := if op = 3 ∨ op = 4 then 16 else 8
def ndA (st : Rd) : Rd := if rdN st 12 = 0 then rdF (rdN' st 12) 3 else rdN' st 12
def ndN (st : Rd) : Int := if named (rdN st 12) then rdN (ndA st) (belowOf (rdN st 12) - 1) else 0
def ndB (st : Rd) : Rd := if named (rdN st 12) then rdN' (ndA st) (belowOf (rdN st 12) - 1) else ndA st
def ndV (st : Rd) : Val := if valued (rdN st 12) then rdVal (ndB st) else ⟨0, 0, []⟩
def ndC (st : Rd) : Rd := if valued (rdN st 12) then rdVal' (ndB st) else ndB st
def ndNode (st : Rd) : Node := ⟨rdN st 12, ndN st, ndV st⟩
def ndD (st : Rd) : Rd := if valued (rdN st 12) ∧ (ndNode st).ok = false then rdF (ndC st) 3 else ndC st
def rdNodes : Nat → Rd → List Node
  | 0, _ => []
  | k + 1, st => if st.e = 0 then ndNode st :: rdNodes k (ndD st) else []
def rdNodes' : Nat → Rd → Rd
  | 0, st => st
  | k + 1, st => if st.e = 0 then rdNodes' k (ndD st) else st
def pdA (st : Rd) : Rd := if rdN st 31 = 0 then rdF (rdN' st 31) 3 else rdN' st 31
def pdL (st : Rd) : List Node := rdNodes (rdN st 31).toNat (pdA st)
def pdS (st : Rd) : Rd := rdNodes' (rdN st 31).toNat (pdA st)
@[irreducible] def rdPred (st : Rd) : List Node := if (pdS st).e = 0 ∧ check (pdL st) = 0 then pdL st else []
@[irreducible] def rdPred' (st : Rd) : Rd := if (pdS st).e = 0 then (if check (pdL st) = 0 then pdS st else if check (pdL st) = 5 then ⟨(pdS st).s, 5⟩ else ⟨(pdS st).s, 3⟩) else pdS st

theorem rdNodes'_bad {st : Rd} (h : st.e ≠ 0) : ∀ k, rdNodes' k st = st
  | 0 => rfl
  | k + 1 => by unfold rdNodes'; rw [if_neg h]
theorem rdNodes'_ok {st : Rd} (h : st.e = 0) (k : Nat) : rdNodes' (k + 1) st = rdNodes' k (ndD st) := by rw [rdNodes', if_pos h]
theorem rdNodes_ok {st : Rd} (h : st.e = 0) (k : Nat) : rdNodes (k + 1) st = ndNode st :: rdNodes k (ndD st) := by rw [rdNodes, if_pos h]
theorem named_zero : named 0 = false := by decide
theorem valued_zero : valued 0 = false := by decide
theorem rdNodes'_none {st : Rd} (h : rdN st 12 = 0) (k : Nat) : rdNodes' (k + 1) st = rdF (rdN' st 12) 3 ∧ (rdF (rdN' st 12) 3).e ≠ 0 := by
  refine ⟨?_, rdF_bad _ (by decide)⟩
  by_cases h0 : st.e = 0
  · rw [rdNodes'_ok h0]
    have hd : ndD st = rdF (rdN' st 12) 3 := by
      unfold ndD ndC ndB ndA
      simp [h, named_zero, valued_zero]
    rw [hd, rdNodes'_bad (rdF_bad _ (by decide))]
  · rw [rdNodes'_bad h0, (rdN_err h0).2, rdF_err h0]
theorem ndA_ok {st : Rd} (h : rdN st 12 ≠ 0) : ndA st = rdN' st 12 := by unfold ndA; rw [if_neg h]
theorem nd_A {st : Rd} (h : rdN st 12 ≠ 0) (h1 : named (rdN st 12) = false) (h2 : valued (rdN st 12) = false) : ndNode st = ⟨rdN st 12, 0, ⟨0, 0, []⟩⟩ ∧ ndD st = rdN' st 12 := by
  unfold ndNode ndD ndC ndB ndN ndV
  simp [h1, h2, ndA_ok h]
theorem nd_B {st : Rd} (h : rdN st 12 ≠ 0) (h1 : named (rdN st 12) = true) (h2 : valued (rdN st 12) = false) :
    ndNode st = ⟨rdN st 12, rdN (rdN' st 12) (belowOf (rdN st 12) - 1), ⟨0, 0, []⟩⟩ ∧ ndD st = rdN' (rdN' st 12) (belowOf (rdN st 12) - 1) := by
  unfold ndNode ndD ndC ndB ndN ndV
  simp [h1, h2, ndA_ok h]
theorem nd_C {st : Rd} (h : rdN st 12 ≠ 0) (h1 : named (rdN st 12) = true) (h2 : valued (rdN st 12) = true) :
    ndNode st = ⟨rdN st 12, rdN (rdN' st 12) (belowOf (rdN st 12) - 1), rdVal (rdN' (rdN' st 12) (belowOf (rdN st 12) - 1))⟩ ∧
    ndD st = if (ndNode st).ok = false then rdF (rdVal' (rdN' (rdN' st 12) (belowOf (rdN st 12) - 1))) 3 else rdVal' (rdN' (rdN' st 12) (belowOf (rdN st 12) - 1)) := by
  simp [ndD, ndNode, ndC, ndB, ndN, ndV, h1, h2, ndA_ok h]
theorem belowOf_bd (op : Int) : 8 ≤ belowOf op ∧ belowOf op ≤ 16 := by unfold belowOf; split <;> omega
theorem rdNodes_len : ∀ k st, (rdNodes k st).length ≤ k
  | 0, _ => by simp [rdNodes]
  | k + 1, st => by
    have := rdNodes_len k (ndD st)
    unfold rdNodes; split <;> simp; omega
theorem rdVal_len (st : Rd) : (rdVal st).s.length ≤ 24 := by
  unfold rdVal
  split
  · simp only
    split
    · have := rdS_len (rdN' st 2) 24
      rcases this.2.1 with h | h
      · omega
      · rw [h]; simp
    · simp
  · simp
theorem ndV_len (st : Rd) : (ndNode st).v.s.length ≤ 24 := by
  unfold ndNode ndV
  simp only
  split
  · exact rdVal_len _
  · simp
theorem rdNodes_texts : ∀ k st, ∀ x ∈ rdNodes k st, x.v.s.length ≤ 24
  | 0, _, x, hx => by simp [rdNodes] at hx
  | k + 1, st, x, hx => by
    unfold rdNodes at hx
    split at hx
    · rcases List.mem_cons.1 hx with rfl | hx
      · exact ndV_len st
      · exact rdNodes_texts k _ x hx
    · simp at hx
theorem pdL_len (st : Rd) : (pdL st).length ≤ 31 := by
  have h1 := rdNodes_len (rdN st 31).toNat (pdA st)
  have h2 := rdN_bd st 31
  unfold pdL; omega
theorem check_cases {l : List Node} (h : l.length ≤ 31) : check l = 0 ∨ check l = 1 ∨ check l = 5 := by
  unfold check
  rw [if_neg (by omega)]
  split
  · simp
  · split
    · simp
    · split <;> simp
theorem rdPred_bad {st : Rd} (h : (pdS st).e ≠ 0) : rdPred st = [] ∧ rdPred' st = pdS st := by unfold rdPred rdPred'; rw [if_neg (fun k => h k.1), if_neg h]; exact ⟨rfl, rfl⟩
theorem rdPred_ok {st : Rd} (h : (pdS st).e = 0) (hc : check (pdL st) = 0) : rdPred st = pdL st ∧ rdPred' st = pdS st := by unfold rdPred rdPred'; rw [if_pos ⟨h, hc⟩, if_pos h, if_pos hc]; exact ⟨rfl, rfl⟩
theorem rdPred_5 {st : Rd} (h : (pdS st).e = 0) (hc : check (pdL st) = 5) : rdPred st = [] ∧ rdPred' st = rdF (pdS st) 5 := by
  unfold rdPred rdPred'; rw [if_neg (fun k => by have := k.2; omega), if_pos h, if_neg (by omega), if_pos hc, rdF_ok h]; exact ⟨rfl, rfl⟩
theorem rdPred_1 {st : Rd} (h : (pdS st).e = 0) (hc : check (pdL st) = 1) : rdPred st = [] ∧ rdPred' st = rdF (pdS st) 3 := by
  unfold rdPred rdPred'; rw [if_neg (fun k => by have := k.2; omega), if_pos h, if_neg (by omega), if_neg (by omega), rdF_ok h]; exact ⟨rfl, rfl⟩

theorem Kept.low {p : Option Nat} {B : Nat} {a w w' : World} (h : Kept p B a w) (k : Below B w w') : Kept p B a w' := h.trans (.of_below k)
theorem own_far {w : World} {base : Nat} {e : TypeId} {size n : Nat} {v : Value} {xs : List Value} {a : Addr} {u : Value} (h : w.ownsRow base e size v n xs) (hne : v.ownBlock ≠ some a.block) : (w.setCell a u).ownsRow base e size v n xs := by
  obtain ⟨h1, h2⟩ := h
  refine ⟨h1, ?_⟩
  rcases h2 with h2 | ⟨g, cap, cur, hv, hg, hh, r⟩
  · exact .inl h2
  · subst hv
    exact .inr ⟨g, cap, cur, rfl, hg, by rw [Below.heap_setCell _ _ _ _ (fun e => hne (by simp [Value.ownBlock, e]))]; exact hh, r⟩
theorem own_lt {w : World} {base : Nat} {e : TypeId} {size n : Nat} {v : Value} {xs : List Value} (h : w.ownsRow base e size v n xs) {b : Nat} (hb : w.heap.size ≤ b) : v.ownBlock ≠ some b := fun e => by have := (h.lt b e).2; omega
/-! The ends of the calls that read a slice. -/
def RetPS {α : Type} (p : Option Nat) (st' : Rd) (k : Nat) (cs : α → List Value) (et : TypeId) (w : World) (l : List α) (e : Ending) (w' : World) : Prop :=
  ∃ v, e = .returned v ∧ w'.ownsRow w.heap.size et k v l.length (l.flatMap cs) ∧ RdP w' p st' ∧ Kept p w.heap.size w w'
open Go.RowKit

/-! Nodes. -/
theorem Node.ok_op {x : Node} (h : x.ok = true) : 1 ≤ x.op ∧ x.op ≤ 12 := by
  unfold Node.ok at h
  split at h
  · omega
  · split at h
    · omega
    · split at h
      · omega
      · split at h
        · omega
        · split at h
          · omega
          · cases h
theorem Node.ok_A {x : Node} (h : x.ok = true) (h1 : named x.op = false) : x.n = 0 ∧ x.v = ⟨0, 0, []⟩ := by
  have := Node.ok_op h
  unfold named at h1
  have h1' : x.op < 3 ∨ 9 < x.op := by simp at h1; omega
  unfold Node.ok at h
  rw [if_pos (by omega)] at h
  simp only [Bool.and_eq_true, decide_eq_true_eq] at h
  exact ⟨h.1, Val.none_eq h.2⟩
theorem Node.ok_B {x : Node} (h : x.ok = true) (h1 : named x.op = true) : 0 ≤ x.n ∧ x.n ≤ belowOf x.op - 1 := by
  have h1' : 3 ≤ x.op ∧ x.op ≤ 9 := by simpa [named] using h1
  unfold Node.ok at h
  rw [if_neg (by omega)] at h
  unfold belowOf
  by_cases h3 : x.op = 3 ∨ x.op = 4
  · rw [if_pos h3] at h ⊢
    simp only [Bool.and_eq_true, decide_eq_true_eq] at h
    omega
  · rw [if_neg h3] at h ⊢
    split at h
    · simp only [Bool.and_eq_true, decide_eq_true_eq] at h; omega
    · split at h
      · simp only [Bool.and_eq_true, decide_eq_true_eq] at h; omega
      · split at h
        · simp only [Bool.and_eq_true, decide_eq_true_eq] at h; omega
        · cases h
theorem Node.ok_V0 {x : Node} (h : x.ok = true) (h1 : named x.op = true) (h2 : valued x.op = false) : x.v = ⟨0, 0, []⟩ := by
  have h1' : 3 ≤ x.op ∧ x.op ≤ 9 := by simpa [named] using h1
  have h2' : x.op < 6 := by simp [valued] at h2; omega
  unfold Node.ok at h
  rw [if_neg (by omega)] at h
  split at h
  · simp only [Bool.and_eq_true, decide_eq_true_eq] at h; exact Val.none_eq h.2
  · rw [if_pos (by omega)] at h
    simp only [Bool.and_eq_true, decide_eq_true_eq] at h; exact Val.none_eq h.2
theorem Node.ok_V {x : Node} (h : x.ok = true) (h2 : valued x.op = true) : x.v.ok = true := by
  have h2' : 6 ≤ x.op ∧ x.op ≤ 9 := by simpa [valued] using h2
  unfold Node.ok at h
  rw [if_neg (by omega), if_neg (by omega), if_neg (by omega)] at h
  split at h
  · simp only [Bool.and_eq_true] at h; exact h.1.2
  · rw [if_pos (by omega)] at h
    simp only [Bool.and_eq_true] at h; exact h.1.2
theorem nd_put {x : Node} (h : x.ok = true) (r : List UInt8) : ndNode ⟨nodeB x ++ r, 0⟩ = x ∧ ndD ⟨nodeB x ++ r, 0⟩ = ⟨r, 0⟩ := by
  have hop := Node.ok_op h
  obtain ⟨op, n, v⟩ := x
  simp only at hop
  rcases named_cases op with ⟨h1, h2⟩ | ⟨h1, h2⟩ | ⟨h1, h2⟩
  · obtain ⟨e1, e2⟩ := Node.ok_A h h1
    simp only at e1 e2
    subst e1 e2
    rw [nodeB_A h1 h2]
    simp only
    obtain ⟨a1, a2⟩ := rdN_num (n := op) (most := 12) r (by omega) (by omega) (by omega)
    obtain ⟨b1, b2⟩ := nd_A (st := ⟨num op ++ r, 0⟩) (by rw [a1]; omega) (by rw [a1]; exact h1) (by rw [a1]; exact h2)
    rw [b1, b2, a1, a2]
    exact ⟨rfl, rfl⟩
  · obtain ⟨e1, e2⟩ := Node.ok_B h h1
    have e3 := Node.ok_V0 h h1 h2
    simp only at e1 e2 e3
    subst e3
    have hbd := belowOf_bd op
    rw [nodeB_B h1 h2]
    simp only
    rw [List.append_assoc]
    obtain ⟨a1, a2⟩ := rdN_num (n := op) (most := 12) (num n ++ r) (by omega) (by omega) (by omega)
    obtain ⟨c1, c2⟩ := rdN_num (n := n) (most := belowOf op - 1) r (by omega) (by omega) (by omega)
    obtain ⟨b1, b2⟩ := nd_B (st := ⟨num op ++ (num n ++ r), 0⟩) (by rw [a1]; omega) (by rw [a1]; exact h1) (by rw [a1]; exact h2)
    rw [b1, b2, a1, a2, c1, c2]
    exact ⟨rfl, rfl⟩
  · obtain ⟨e1, e2⟩ := Node.ok_B h h1
    have e3 := Node.ok_V h h2
    simp only at e1 e2 e3
    have hbd := belowOf_bd op
    rw [nodeB_C h1 h2]
    simp only
    rw [List.append_assoc, List.append_assoc]
    obtain ⟨a1, a2⟩ := rdN_num (n := op) (most := 12) (num n ++ (valB v ++ r)) (by omega) (by omega) (by omega)
    obtain ⟨c1, c2⟩ := rdN_num (n := n) (most := belowOf op - 1) (valB v ++ r) (by omega) (by omega) (by omega)
    obtain ⟨d1, d2⟩ := rdVal_put e3 r
    obtain ⟨b1, b2⟩ := nd_C (st := ⟨num op ++ (num n ++ (valB v ++ r)), 0⟩) (by rw [a1]; omega) (by rw [a1]; exact h1) (by rw [a1]; exact h2)
    rw [a1, a2, c1, c2, d1] at b1
    rw [b1, h, if_neg (by decide), a1, a2, c2, d2] at b2
    exact ⟨b1, b2⟩
theorem nd_took {st : Rd} (h : (ndD st).e = 0) : st.e = 0 ∧ (ndNode st).ok = true ∧ st.s = nodeB (ndNode st) ++ (ndD st).s := by
  have hn := rdN_bd st 12
  by_cases hop : rdN st 12 = 0
  · exfalso
    have hd : ndD st = rdF (rdN' st 12) 3 := by simp [ndD, ndC, ndB, ndA, hop, named_zero, valued_zero]
    rw [hd] at h
    exact rdF_bad _ (by decide) h
  · obtain ⟨h0, h0'⟩ := rdN_ok hop
    obtain ⟨_, u, e1, e2, _⟩ := rdN_took h0'
    rcases named_cases (rdN st 12) with ⟨h1, h2⟩ | ⟨h1, h2⟩ | ⟨h1, h2⟩
    · obtain ⟨b1, b2⟩ := nd_A hop h1 h2
      have h1' : rdN st 12 < 3 ∨ 9 < rdN st 12 := by simp [named] at h1; omega
      rw [b1, b2, nodeB_A (x := ⟨rdN st 12, 0, ⟨0, 0, []⟩⟩) h1 h2]
      refine ⟨h0, ?_, by rw [e1, e2]⟩
      unfold Node.ok
      rw [if_pos (by simp only; omega)]
      simp [Val.none]
    · obtain ⟨b1, b2⟩ := nd_B hop h1 h2
      rw [b2] at h
      obtain ⟨_, u', f1, f2, f3⟩ := rdN_took h
      have hb := rdN_bd (rdN' st 12) (belowOf (rdN st 12) - 1)
      have h1' : 3 ≤ rdN st 12 ∧ rdN st 12 ≤ 9 := by simpa [named] using h1
      have h2' : rdN st 12 < 6 := by simp [valued] at h2; omega
      rw [b1, b2, nodeB_B (x := ⟨rdN st 12, rdN (rdN' st 12) (belowOf (rdN st 12) - 1), ⟨0, 0, []⟩⟩) h1 h2]
      refine ⟨h0, ?_, by rw [e1, e2, f1, f2]; simp⟩
      unfold Node.ok
      simp only
      rw [if_neg (by omega)]
      unfold belowOf at *
      by_cases h34 : rdN st 12 = 3 ∨ rdN st 12 = 4
      · rw [if_pos h34] at *
        rw [if_pos h34]
        have h0n := hb.1
        have h1n : rdN (rdN' st 12) (16 - 1) < 16 := by omega
        simp [Val.none]
        exact ⟨h0n, h1n⟩
      · rw [if_neg h34] at *
        rw [if_neg h34, if_pos (by omega)]
        have h0n := hb.1
        have h1n : rdN (rdN' st 12) (8 - 1) < 8 := by omega
        simp [Val.none]
        exact ⟨h0n, h1n⟩
    · obtain ⟨b1, b2⟩ := nd_C hop h1 h2
      cases hok : (ndNode st).ok
      · rw [b2, hok, if_pos rfl] at h
        exact absurd h (rdF_bad _ (by decide))
      · rw [hok, if_neg (by decide)] at b2
        rw [b2] at h
        obtain ⟨g0, g1, g2⟩ := rdVal_took h
        obtain ⟨_, u', f1, f2, f3⟩ := rdN_took g0
        rw [b1, b2, nodeB_C (x := ⟨rdN st 12, rdN (rdN' st 12) (belowOf (rdN st 12) - 1), rdVal (rdN' (rdN' st 12) (belowOf (rdN st 12) - 1))⟩) h1 h2]
        exact ⟨h0, rfl, by rw [e1, e2, f1, f2, g2]; simp⟩
theorem rdNodes_put : ∀ (l : List Node) (r : List UInt8), (∀ x ∈ l, x.ok = true) → rdNodes l.length ⟨l.flatMap nodeB ++ r, 0⟩ = l ∧ rdNodes' l.length ⟨l.flatMap nodeB ++ r, 0⟩ = ⟨r, 0⟩
  | [], r, _ => ⟨rfl, rfl⟩
  | x :: l, r, h => by
    obtain ⟨h1, h2⟩ := rdNodes_put l r (fun y hy => h y (List.mem_cons_of_mem _ hy))
    obtain ⟨a1, a2⟩ := nd_put (h x (List.mem_cons_self ..)) (l.flatMap nodeB ++ r)
    rw [List.flatMap_cons, List.append_assoc, List.length_cons, rdNodes_ok rfl, rdNodes'_ok rfl, a1, a2, h1, h2]
    exact ⟨rfl, rfl⟩
theorem rdNodes_took : ∀ (k : Nat) (st : Rd), (rdNodes' k st).e = 0 → st.e = 0 ∧ (rdNodes k st).length = k ∧ st.s = (rdNodes k st).flatMap nodeB ++ (rdNodes' k st).s
  | 0, st, h => ⟨h, rfl, by simp [rdNodes, rdNodes']⟩
  | k + 1, st, h => by
    by_cases h0 : st.e = 0
    · rw [rdNodes'_ok h0] at h
      obtain ⟨h1, h2, h3⟩ := rdNodes_took k (ndD st) h
      obtain ⟨_, _, g3⟩ := nd_took h1
      rw [rdNodes_ok h0, rdNodes'_ok h0, List.flatMap_cons, List.length_cons, h2, List.append_assoc, ← h3]
      exact ⟨h0, rfl, g3⟩
    · rw [rdNodes'_bad h0] at h
      exact absurd h h0
theorem rdPred_put {l : List Node} (h : check l = 0) (r : List UInt8) : rdPred ⟨putB l ++ r, 0⟩ = l ∧ rdPred' ⟨putB l ++ r, 0⟩ = ⟨r, 0⟩ := by
  have hl := check_len h
  have hpos : 0 < l.length := by
    rcases Nat.eq_zero_or_pos l.length with h0 | h0
    · have : l = [] := List.eq_nil_of_length_eq_zero h0
      subst this
      exact absurd h (by decide)
    · exact h0
  obtain ⟨a1, a2⟩ := rdN_num (n := l.length) (most := 31) (l.flatMap nodeB ++ r) (by omega) (by omega) (by omega)
  obtain ⟨b1, b2⟩ := rdNodes_put l r (check_ok h)
  have hA : pdA ⟨num l.length ++ (l.flatMap nodeB ++ r), 0⟩ = ⟨l.flatMap nodeB ++ r, 0⟩ := by unfold pdA; rw [a1, a2, if_neg (by omega)]
  have hL : pdL ⟨num l.length ++ (l.flatMap nodeB ++ r), 0⟩ = l := by unfold pdL; rw [hA, a1, Int.toNat_natCast, b1]
  have hS : pdS ⟨num l.length ++ (l.flatMap nodeB ++ r), 0⟩ = ⟨r, 0⟩ := by unfold pdS; rw [hA, a1, Int.toNat_natCast, b2]
  rw [putB_ok h, List.append_assoc]
  obtain ⟨c1, c2⟩ := rdPred_ok (st := ⟨num l.length ++ (l.flatMap nodeB ++ r), 0⟩) (by rw [hS]) (by rw [hL]; exact h)
  rw [c1, c2, hL, hS]
  exact ⟨rfl, rfl⟩
theorem rdPred_took {st : Rd} (h : (rdPred' st).e = 0) : check (rdPred st) = 0 ∧ st.s = putB (rdPred st) ++ (rdPred' st).s := by
  by_cases hS : (pdS st).e = 0
  · rcases check_cases (pdL_len st) with hc | hc | hc
    · obtain ⟨c1, c2⟩ := rdPred_ok hS hc
      rw [c1, c2]
      refine ⟨hc, ?_⟩
      have hop : rdN st 31 ≠ 0 := fun h0 => by
        unfold pdS pdA at hS
        rw [if_pos h0, h0] at hS
        exact rdF_bad _ (by decide) hS
      have hA : pdA st = rdN' st 31 := by unfold pdA; rw [if_neg hop]
      have hb := rdN_bd st 31
      obtain ⟨d1, d2, d3⟩ := rdNodes_took (rdN st 31).toNat (pdA st) hS
      rw [hA] at d1 d2 d3
      obtain ⟨_, u, e1, e2, _⟩ := rdN_took d1
      have hlen : ((pdL st).length : Int) = rdN st 31 := by unfold pdL; rw [hA, d2]; omega
      rw [putB_ok hc, hlen, e1, e2, List.append_assoc]
      congr 1
      rw [d3]
      unfold pdL pdS
      rw [hA]
    · rw [(rdPred_1 hS hc).2] at h
      exact absurd h (rdF_bad _ (by decide))
    · rw [(rdPred_5 hS hc).2] at h
      exact absurd h (rdF_bad _ (by decide))
  · rw [(rdPred_bad hS).2] at h
    exact absurd h hS
theorem rdPred_err {st : Rd} (h : st.e ≠ 0) : rdPred st = [] ∧ rdPred' st = st := by
  have hA : pdA st = st := by unfold pdA; rw [if_pos (rdN_err h).1, (rdN_err h).2, rdF_err h]
  have hS : pdS st = st := by unfold pdS; rw [hA]; exact rdNodes'_bad h _
  obtain ⟨a, b⟩ := rdPred_bad (st := st) (by rw [hS]; exact h)
  exact ⟨a, by rw [b, hS]⟩
/-! What is left only gets shorter. -/
open Go.RowKit

structure Cmd where
  kind : Int
  e : Edit
  dev : Int
  req : Int
  id : Int
  base : Int
  keep : Int
  p : Patch
  f : List Node
  mask : Nat
deriving DecidableEq
abbrev cmdz : Cmd := ⟨0, ez, 0, 0, 0, 0, 0, pz, [], 0⟩
def Cmd.eZ (c : Cmd) : Bool := decide (c.e = ez)
def Cmd.pZ (c : Cmd) : Bool := decide (c.p = pz)
def Cmd.fZ (c : Cmd) : Bool := decide (c.f = [] ∧ c.mask = 0)
def Cmd.bare (c : Cmd) : Bool := decide (c.dev = 0 ∧ c.req = 0 ∧ c.id = 0 ∧ c.base = 0 ∧ c.keep = 0) && (c.eZ && (c.pZ && c.fZ))
def Cmd.rq (c : Cmd) : Bool := decide (0 ≤ c.dev ∧ c.dev ≤ 5 ∧ 1 ≤ c.req ∧ c.req ≤ 1099511627776)
def Cmd.okEdit (c : Cmd) : Bool := ({ c with e := ez } : Cmd).bare && decide (c.e.code = 0)
def Cmd.okTrim (c : Cmd) : Bool := ({ c with keep := 0 } : Cmd).bare && decide (0 ≤ c.keep ∧ c.keep ≤ 1099511627776)
def Cmd.okPut (c : Cmd) : Bool := ({ c with dev := 0, req := 0, id := 0, base := 0, p := pz } : Cmd).bare && (decide (1 ≤ c.id ∧ c.id ≤ 1073741823 ∧ 1 ≤ c.base ∧ c.base ≤ 1099511627776) && decide (c.p.code = 0))
def Cmd.okSub (c : Cmd) : Bool := ({ c with dev := 0, req := 0, f := [], mask := 0 } : Cmd).bare && decide (check c.f = 0 ∧ c.mask < 512)
def Cmd.okLeave (c : Cmd) : Bool := ({ c with dev := 0, req := 0 } : Cmd).bare
def Cmd.ok (c : Cmd) : Bool :=
  if c.kind = 1 then c.okEdit else if c.kind = 5 then c.okTrim
  else if c.kind = 2 then c.rq && c.okPut else if c.kind = 3 then c.rq && c.okSub else if c.kind = 4 then c.rq && c.okLeave else false
theorem Cmd.ok_1 {c : Cmd} (h : c.kind = 1) : c.ok = c.okEdit := by unfold Cmd.ok; rw [if_pos h]
theorem Cmd.ok_2 {c : Cmd} (h : c.kind = 2) : c.ok = (c.rq && c.okPut) := by unfold Cmd.ok; rw [if_neg (by omega), if_neg (by omega), if_pos h]
theorem Cmd.ok_no {c : Cmd} (h : ¬ (1 ≤ c.kind ∧ c.kind ≤ 5)) : c.ok = false := by unfold Cmd.ok; rw [if_neg (by omega), if_neg (by omega), if_neg (by omega), if_neg (by omega), if_neg (by omega)]
theorem Cmd.ok_kind {c : Cmd} (h : c.ok = true) : 1 ≤ c.kind ∧ c.kind ≤ 5 := by
  rcases Classical.em (1 ≤ c.kind ∧ c.kind ≤ 5) with h' | h'
  · exact h'
  · rw [Cmd.ok_no h'] at h; cases h
theorem editB_len' (e : Edit) : (editB e).length ≤ 353 := by
  have h1 := (num_len e.kind).2
  have h2 := (num_len e.group).2
  have h3 := (num_len e.id).2
  have h4 := patchB_len e.p
  unfold editB
  cases hasG e.kind <;> cases hasI e.kind <;> cases hasP e.kind <;> split <;> simp <;> omega
/-! What is read as a command. -/
def cmK (st : Rd) : Int := rdN st 5
def cmA (st : Rd) : Rd := rdAb' st 5
def cmB (st : Rd) : Rd := rdN' (cmA st) 5
def cmC (st : Rd) : Rd := rdAb' (cmB st) 1099511627776
def cmD (st : Rd) : Rd := rdAb' (cmC st) 1073741823
def cmE (st : Rd) : Rd := rdAb' (cmD st) 1099511627776
def cmF (st : Rd) : Rd := rdPred' (cmC st)
def rdCmdRaw' (st : Rd) : Rd :=
  if cmK st = 1 then rdEdit' (cmA st) else if cmK st = 5 then rdN' (cmA st) 1099511627776
  else if cmK st = 2 then rdPatch' (cmE st) else if cmK st = 3 then rdN' (cmF st) 511 else cmC st
def rdCmdRaw (st : Rd) : Cmd :=
  if cmK st = 1 then { cmdz with kind := 1, e := rdEdit (cmA st) } else if cmK st = 5 then { cmdz with kind := 5, keep := rdN (cmA st) 1099511627776 }
  else if cmK st = 2 then { cmdz with kind := 2, dev := rdN (cmA st) 5, req := rdN (cmB st) 1099511627776, id := rdN (cmC st) 1073741823, base := rdN (cmD st) 1099511627776, p := rdPatch (cmE st) }
  else if cmK st = 3 then { cmdz with kind := 3, dev := rdN (cmA st) 5, req := rdN (cmB st) 1099511627776, f := rdPred (cmC st), mask := (rdN (cmF st) 511).toNat }
  else { cmdz with kind := cmK st, dev := rdN (cmA st) 5, req := rdN (cmB st) 1099511627776 }
@[irreducible] def rdCmd' (st : Rd) : Rd := rdCmdRaw' st
@[irreducible] def rdCmd (st : Rd) : Cmd := if (rdCmdRaw' st).e = 0 then rdCmdRaw st else cmdz
open Go.RowKit

theorem elemN : Elem Tryd.prog 31 80 5 48 := Elem.mk' Tryd.underlying31 (z := .agg #[.int .i64 0, .int .i64 0, .int .i64 0, .int .i64 0, .string ⟨#[]⟩]) (by kernel_rfl) rfl (by omega) (by omega)
theorem Kid.cells_len (x : Kid) : x.cells.length = 1 := rfl
end Go.Proofs.YtiedkcijjfmhaaaDoor
