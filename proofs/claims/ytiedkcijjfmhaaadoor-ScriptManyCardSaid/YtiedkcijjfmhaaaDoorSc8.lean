/-
  Lemmas (walks and plain laws), in one text.
-/
import Derived.Test.YtiedkcijjfmhaaaDoorSc2
import Derived.Test.YtiedkcijjfmhaaaDoorSc3
import Derived.Test.YtiedkcijjfmhaaaDoorSc6
import Derived.Test.YtiedkcijjfmhaaaDoorSc7
namespace Go.Proofs.YtiedkcijjfmhaaaDoor
open Go.RowKit

set_option maxHeartbeats 1000000 in
theorem c_edit_hasG (k : Int) (w : World) (h1 : 0 ≤ k) (h2 : k ≤ 7) : Calls Tryd.prog 48 #[.int .i64 k, .int .i64 1] w (RetV w (.bool (hasG k))) := by
  rcases kind8 h1 h2 with rfl | rfl | rfl | rfl | rfl | rfl | rfl | rfl
  all_goals
    go_enter Tryd.func48, Tryd.ntmps48
    go_wp2
    go_ret
    exact RetV.bool (by decide) (Below.refl _ _)
set_option maxHeartbeats 1000000 in
theorem c_edit_hasI (k : Int) (w : World) (h1 : 0 ≤ k) (h2 : k ≤ 7) : Calls Tryd.prog 48 #[.int .i64 k, .int .i64 2] w (RetV w (.bool (hasI k))) := by
  rcases kind8 h1 h2 with rfl | rfl | rfl | rfl | rfl | rfl | rfl | rfl
  all_goals
    go_enter Tryd.func48, Tryd.ntmps48
    go_wp2
    go_ret
    exact RetV.bool (by decide) (Below.refl _ _)
set_option maxHeartbeats 1000000 in
theorem c_edit_hasP (k : Int) (w : World) (h1 : 0 ≤ k) (h2 : k ≤ 7) : Calls Tryd.prog 48 #[.int .i64 k, .int .i64 4] w (RetV w (.bool (hasP k))) := by
  rcases kind8 h1 h2 with rfl | rfl | rfl | rfl | rfl | rfl | rfl | rfl
  all_goals
    go_enter Tryd.func48, Tryd.ntmps48
    go_wp2
    go_ret
    exact RetV.bool (by decide) (Below.refl _ _)
/-- What is asked for: 1 a group, 2 an ID, 4 a patch. -/
def hasW (k x : Int) : Bool := if x = 1 then hasG k else if x = 2 then hasI k else hasP k
theorem c_edit_has (k x : Int) (w : World) (h1 : 0 ≤ k) (h2 : k ≤ 7) (hx : x = 1 ∨ x = 2 ∨ x = 4) : Calls Tryd.prog 48 #[.int .i64 k, .int .i64 x] w (RetV w (.bool (hasW k x))) := by
  rcases hx with rfl | rfl | rfl
  · exact c_edit_hasG k w h1 h2
  · exact c_edit_hasI k w h1 h2
  · exact c_edit_hasP k w h1 h2
set_option maxHeartbeats 1000000 in
theorem c_ref19_group (k : Int) (w : World) (h1 : 0 ≤ k) (h2 : k ≤ 7) : Calls Tryd.prog 58 #[.int .i64 k] w (RetV w (.bool (hasG k))) := by
  rcases kind8 h1 h2 with rfl | rfl | rfl | rfl | rfl | rfl | rfl | rfl
  all_goals
    go_enter Tryd.func58, Tryd.ntmps58
    go_wp2
    go_ret
    exact RetV.bool (by decide) (Below.refl _ _)
set_option maxHeartbeats 1000000 in
theorem c_ref19_id (k : Int) (w : World) (h1 : 0 ≤ k) (h2 : k ≤ 7) : Calls Tryd.prog 59 #[.int .i64 k] w (RetV w (.bool (hasI k))) := by
  rcases kind8 h1 h2 with rfl | rfl | rfl | rfl | rfl | rfl | rfl | rfl
  all_goals
    go_enter Tryd.func59, Tryd.ntmps59
    go_wp2
    go_ret
    exact RetV.bool (by decide) (Below.refl _ _)
set_option maxHeartbeats 1000000 in
theorem c_ref19_patch (k : Int) (w : World) (h1 : 0 ≤ k) (h2 : k ≤ 7) : Calls Tryd.prog 60 #[.int .i64 k] w (RetV w (.bool (hasP k))) := by
  rcases kind8 h1 h2 with rfl | rfl | rfl | rfl | rfl | rfl | rfl | rfl
  all_goals
    go_enter Tryd.func60, Tryd.ntmps60
    go_wp2
    go_ret
    exact RetV.bool (by decide) (Below.refl _ _)
end Go.Proofs.YtiedkcijjfmhaaaDoor
namespace Go.Proofs.YtiedkcijjfmhaaaDoor
open Go.RowKit

theorem Blk.alloc {w : World} {g : Nat} {cs : Array Value} (h : Blk w g cs) (o : Obj) : Blk (w.alloc o) g cs := h.below ((Below.refl _ _).alloc (Nat.le_refl _) o) h.lt
theorem farr_one (f : List Val) : ∀ v ∈ (farr f).toList, v.oneCell' = true := by
  intro v hv
  unfold farr at hv
  simp only [List.mem_flatMap] at hv
  obtain ⟨x, -, hx⟩ := hv
  simp only [Val.cells, List.mem_cons, List.not_mem_nil, or_false] at hx
  rcases hx with rfl | rfl | rfl <;> rfl
/-- What stands when k of the mask's fields have been read. -/
structure FldAt (w : World) (p : Option Nat) (b : Bool) (S : Rd) (F : List Val) (m : Nat) (A7 : Option Addr) (c7 : Nat) (k : Nat) (st : Rd) (f : List Val) (wr : World) : Prop where
  len : f.length = 8
  eS : rdFs' b ((bitsTo m 8).drop k) st = S
  eF : rdFv b ((bitsTo m 8).drop k) st f = F
  rd : RdP wr p st
  P : Blk wr w.heap.size #[ptr p]
  N : Blk wr (w.heap.size + 1) #[.bool b]
  R : ∃ z, z.size = 24 ∧ Blk wr (w.heap.size + 2) z
  O : Blk wr (w.heap.size + 3) (farr f)
  own : wr.ownsRow (w.heap.size + 4) 3 1 (.slice A7 (idx8 m).length c7) (idx8 m).length ((idx8 m).flatMap ic)
  kept : Kept p w.heap.size w wr
theorem FldAt.next {w : World} {p : Option Nat} {b : Bool} {S : Rd} {F : List Val} {m : Nat} {A7 : Option Addr} {c7 k : Nat} {st : Rd} {f : List Val} {wr w' : World} {e : Ending} (hp : ∀ g, p = some g → g < w.heap.size) (h : FldAt w p b S F m A7 c7 k st f wr)
    {n : Nat} (hk : k < (bitsTo m 8).length) (hn : n = (bitsTo m 8)[k]) (h1 : RetOne b p st f n (w.heap.size + 3) wr e w') : FldAt w p b S F m A7 c7 (k + 1) (fldS b st) (f.set n (rdVal st)) w' := by
  obtain ⟨-, hr, ho, w1, w2, k1, k2, k3⟩ := h1
  have hS := h.eS
  have hF := h.eF
  rw [List.drop_eq_getElem_cons hk, ← hn] at hS hF
  have ne : ∀ g, w.heap.size ≤ g → p ≠ some g := fun g hg e => by have := hp g e; omega
  obtain ⟨z, hz, hR⟩ := h.R
  have z1 := k1.size
  have z2 := k2.size
  have z3 := k3.size
  have zw := h.kept.size
  have tr : ∀ {g : Nat} {cs : Array Value}, Blk wr g cs → w.heap.size ≤ g → g ≠ w.heap.size + 3 → Blk w' g cs := fun hb hg hne => by
    have b1 := hb.kept k1 hb.lt (ne _ hg)
    have b2 := b1.kept k2 b1.lt (fun e => hne (by injection e with e; exact e.symm))
    exact b2.kept k3 b2.lt (ne _ hg)
  refine ⟨by rw [List.length_set]; exact h.len, hS, hF, hr, tr h.P (Nat.le_refl _) (by omega), tr h.N (by omega) (by omega), ⟨z, hz, tr hR (by omega) (by omega)⟩, ho, ?_, ?_⟩
  · have o1 := own_kept h.own k1 (fun g hg => by have := hp g hg; omega)
    have o2 := own_kept o1 k2 (fun g hg => by injection hg with hg; omega)
    exact own_kept o2 k3 (fun g hg => by have := hp g hg; omega)
  · exact ((h.kept.trans (k1.mono zw)).trans (k2.one (by omega) (.inl (by omega)))).trans (k3.mono (by omega))
end Go.Proofs.YtiedkcijjfmhaaaDoor
namespace Go.Proofs.YtiedkcijjfmhaaaDoor
open Go.RowKit

theorem putAt_app (hd tl : List Value) (j : Nat) (vs : List Value) (h : j + vs.length ≤ tl.length) : putAt (hd ++ tl).toArray (hd.length + j) vs = (hd ++ (putAt tl.toArray j vs).toList).toArray := by
  apply Array.ext_getElem?
  intro i
  have e : (hd ++ (putAt tl.toArray j vs).toList).toArray[i]? = (hd ++ (putAt tl.toArray j vs).toList)[i]? := by simp only [List.getElem?_toArray]
  rw [e]
  clear e
  by_cases hi : i < hd.length
  · rw [putAt_far _ _ _ _ (.inl (by omega)), List.getElem?_append_left hi, List.getElem?_toArray, List.getElem?_append_left hi]
  · obtain ⟨q, rfl⟩ : ∃ q, i = hd.length + q := ⟨i - hd.length, by omega⟩
    rw [List.getElem?_append_right (by omega), Nat.add_sub_cancel_left, Array.getElem?_toList]
    by_cases h1 : q < j ∨ j + vs.length ≤ q
    · rw [putAt_far _ _ _ _ (by omega), putAt_far _ _ _ _ h1, List.getElem?_toArray, List.getElem?_append_right (by omega), Nat.add_sub_cancel_left, List.getElem?_toArray]
    · obtain ⟨r, rfl⟩ : ∃ r, q = j + r := ⟨q - j, by omega⟩
      rw [← Nat.add_assoc, putAt_in _ _ _ _ (by simp; omega) (by omega), putAt_in _ _ _ _ (by simp; omega) (by omega)]
theorem farr_list (f : List Val) : (farr f).toList = f.flatMap Val.cells := by unfold farr; rfl
section
variable {a b : Int} {l m : Nat} {f g : List Val}
end
theorem Card.arr_one (c : Card) : ∀ v ∈ c.arr.toList, v.oneCell' = true := by
  intro v hv
  unfold Card.arr at hv
  rw [List.mem_append] at hv
  rcases hv with hv | hv
  · simp only [List.mem_cons, List.not_mem_nil, or_false] at hv
    rcases hv with rfl | rfl | rfl <;> rfl
  · exact farr_one c.f v (by rw [farr_list]; exact hv)
theorem Patch.arr_one (c : Patch) : ∀ v ∈ c.arr.toList, v.oneCell' = true := by
  intro v hv
  unfold Patch.arr at hv
  rw [List.mem_append] at hv
  rcases hv with hv | hv
  · simp only [List.mem_cons, List.not_mem_nil, or_false] at hv
    rcases hv with rfl | rfl <;> rfl
  · exact farr_one c.f v (by rw [farr_list]; exact hv)
theorem Card.arr_ones (c : Card) : (c.arr.all fun x => x.oneCell') = true := by
  rw [Array.all_eq_true]
  exact fun i hi => Card.arr_one c _ (Array.getElem_mem_toList hi)
theorem Patch.arr_ones (c : Patch) : (c.arr.all fun x => x.oneCell') = true := by
  rw [Array.all_eq_true]
  exact fun i hi => Patch.arr_one c _ (Array.getElem_mem_toList hi)
end Go.Proofs.YtiedkcijjfmhaaaDoor
namespace Go.Proofs.YtiedkcijjfmhaaaDoor
open Go.RowKit

/-- What stands when the fields below k have been read. -/
structure PatAt (w : World) (h : Nat) (S : Rd) (F : List Val) (m L : Nat) (k : Nat) (st : Rd) (f : List Val) (wr : World) : Prop where
  len : f.length = 8
  eS : rdFs' true (bitsFrom m k) st = S
  eF : rdFv true (bitsFrom m k) st f = F
  rd : RdR wr h st
  R : ∃ z, z.size = 26 ∧ Blk wr w.heap.size z
  C : Blk wr (w.heap.size + 1) (Patch.arr ⟨m, L, f⟩)
  kept : Kept (some h) w.heap.size w wr
section
variable {w wr w' : World} {h : Nat} {S : Rd} {F : List Val} {m L k : Nat} {st : Rd} {f : List Val}
theorem PatAt.no (I : PatAt w h S F m L k st f wr) (hk : k < 8) (hb : m.testBit k = false) (hw : Below wr.heap.size wr w') : PatAt w h S F m L (k + 1) st f w' := by
  have e := bitsFrom_no hk hb
  obtain ⟨z, hz, hR⟩ := I.R
  exact ⟨I.len, by rw [← e]; exact I.eS, by rw [← e]; exact I.eF, I.rd.below hw, ⟨z, hz, hR.below hw hR.lt⟩, I.C.below hw I.C.lt, I.kept.then_below hw I.kept.size⟩
theorem PatAt.one (I : PatAt w h S F m L k st f wr) (hh : h < w.heap.size) (hk : k < 8) (hb : m.testBit k = true) {w1 w2 : World} (k0 : Below wr.heap.size wr w1) (k1 : Kept (some h) w1.heap.size w1 w2) (k2 : Kept (some (w.heap.size + 1)) w2.heap.size w2 w')
    (hr : RdR w' h (rdVal' st)) (hC : Blk w' (w.heap.size + 1) (Patch.arr ⟨m, L, f.set k (rdVal st)⟩)) : PatAt w h S F m L (k + 1) (rdVal' st) (f.set k (rdVal st)) w' := by
  have e := bitsFrom_yes hk hb
  obtain ⟨z, hz, hR⟩ := I.R
  have hS := I.eS
  have hF := I.eF
  rw [e, rdFs', fldS_true] at hS
  rw [e, rdFv, fldS_true] at hF
  have z0 := k0.size
  have z1 := k1.size
  have zw := I.kept.size
  have zl := hR.lt
  have b1 := hR.below k0 hR.lt
  have b2 := b1.kept k1 b1.lt (by simp; omega)
  refine ⟨by rw [List.length_set]; exact I.len, hS, hF, hr, ⟨z, hz, b2.kept k2 b2.lt (by simp)⟩, hC, ?_⟩
  exact ((I.kept.then_below k0 zw).trans (k1.mono (by omega))).trans (k2.one (by omega) (.inl (by omega)))
end
end Go.Proofs.YtiedkcijjfmhaaaDoor
namespace Go.Proofs.YtiedkcijjfmhaaaDoor
open Go.RowKit

theorem neq_node (x y : Node) (w : World) (h : x ≠ y) : (binOp .neq 80 x.val y.val).run Tryd.prog w = .ok (.bool true) w := by
  obtain ⟨o1, n1, k1, m1, s1⟩ := x
  obtain ⟨o2, n2, k2, m2, s2⟩ := y
  unfold Node.val
  by_cases h1 : o1 = o2
  · by_cases h2 : n1 = n2
    · by_cases h3 : k1 = k2
      · by_cases h4 : m1 = m2
        · have h5 : s1 ≠ s2 := fun e => h (by rw [h1, h2, h3, h4, e])
          have h7 : str s1 ≠ str s2 := fun e => h5 (str_inj e)
          simp [go_sem, h1, h2, h3, h4, h5]
        · simp [go_sem, h1, h2, h3, h4]
      · simp [go_sem, h1, h2, h3]
    · simp [go_sem, h1, h2]
  · simp [go_sem, h1]
set_option maxHeartbeats 400000 in
theorem c_ref10_Same (l1 l2 : List Node) (A1 A2 : Option Addr) (c1 c2 : Nat) (w : World) (h1 : InN w A1 c1 l1) (h2 : InN w A2 c2 l2) :
    Calls Tryd.prog 36 #[.slice A1 l1.length c1, .slice A2 l2.length c2] w (RetV w (.bool (decide (l1 = l2)))) := by
  have hL1 := h1.1
  have hC1 := h1.2.1
  have hS1 := h1.2.2.1
  have hL2 := h2.1
  have hC2 := h2.2.1
  have hS2 := h2.2.2.1
  by_cases hlen : l1.length = l2.length
  case neg =>
    have H : Hid (false = decide (l1 = l2)) := by
      show _ = _
      symm
      rw [decide_eq_false_iff_not]
      exact fun e => hlen (by rw [e])
    go_enter Tryd.func36, Tryd.ntmps36
    go_wp2_with (fail)
    go_ret
    exact RetV.bool H.out (by repeat (first | exact Below.refl _ _ | refine Below.drew ?_ | refine Below.alloc ?_ (by first | omega | (simp; done) | (simp; omega)) _ | refine Below.setCell ?_ (by first | omega | (simp; done) | (simp; omega)) _ | refine Below.trans ?_ (Below.mono (by assumption) (by first | omega | (simp; done) | (simp; omega)))))
  have hd : ((l1.length : Int) != (l2.length : Int)) = false := by rw [hlen]; simp
  have HL := Lib.hid hlen
  clear hlen
  go_enter Tryd.func36, Tryd.ntmps36
  go_wp2_with (fail)
  go_loopw [5] (fun i wr => ∃ k : Nat, k ≤ l1.length ∧ i = .int .i64 k ∧ Hid (decide (l1.drop k = l2.drop k) = decide (l1 = l2)) ∧ Below w.heap.size w wr) (fun i _ => l1.length - (intOf i).toNat)
  case atStart => exact ⟨0, by omega, rfl, by simp [Hid], Below.refl _ _⟩
  case round =>
    obtain ⟨k, hk, rfl, H, hbl⟩ := hrel
    have hbz := hbl.size
    by_cases hlt : k < l1.length
    · have hlt2 : k < l2.length := by have := HL.out; omega
      obtain ⟨b1, off1, rfl, hb1, hrow1⟩ := h1.at hlt
      obtain ⟨b2, off2, rfl, hb2, hrow2⟩ := h2.at hlt2
      obtain ⟨e0, e1, e2, e3, e4⟩ := (hrow1.below hbl hb1).node hlt rfl
      obtain ⟨f0, f1, f2, f3, f4⟩ := (hrow2.below hbl hb2).node hlt2 rfl
      have hbr1 : b1 < wr.heap.size := by omega
      have hbr2 : b2 < wr.heap.size := by omega
      have hi1 : (0 : Int) ≤ (k : Int) := by omega
      have hi2 : (k : Int) < (l1.length : Int) := by omega
      have hi3 : (k : Int) < (l2.length : Int) := by omega
      have hH := H.out
      rw [List.drop_eq_getElem_cons hlt, List.drop_eq_getElem_cons hlt2] at hH
      clear h1 h2 H
      by_cases hx : l1[k] = l2[k]
      · have HN : Hid (decide (l1.drop (k + 1) = l2.drop (k + 1)) = decide (l1 = l2)) := by show _ = _; rw [← hH, hx]; simp only [List.cons.injEq, true_and]
        rw [← hx] at f0 f1 f2 f3 f4
        clear hH hx
        go_wp2_with (fail)
        refine wp_region_grow (by kernel_rfl) (by kernel_rfl) ?_
        repeat (quiet_step ((first | fail)))
        refine wpQuiet_nil ?_
        intro w2 hb2
        go_wp2_with (fail)
        go_roundw
        case rel => exact ⟨k + 1, by omega, by go_num, HN.out, (by repeat (first | exact Below.refl _ _ | refine Below.drew ?_ | refine Below.alloc ?_ (by first | omega | (simp; done) | (simp; omega)) _ | refine Below.setCell ?_ (by first | omega | (simp; done) | (simp; omega)) _ | refine Below.trans ?_ (Below.mono (by assumption) (by first | omega | (simp; done) | (simp; omega)))))⟩
        case measure => simp [intOf]; omega
      · have HN : Hid (false = decide (l1 = l2)) := by show _ = _; rw [← hH]; symm; rw [decide_eq_false_iff_not]; intro e; injection e with e; exact hx e
        have kn := fun w => neq_node l1[k] l2[k] w hx
        clear hH
        go_wp2_with (fail)
        refine wp_region_grow (by kernel_rfl) (by kernel_rfl) ?_
        repeat (quiet_step ((first | fail)))
        refine wpQuiet_nil ?_
        intro w2 hb2
        go_wp2_with (fail)
        go_ret
        exact RetV.bool HN.out (by repeat (first | exact Below.refl _ _ | refine Below.drew ?_ | refine Below.alloc ?_ (by first | omega | (simp; done) | (simp; omega)) _ | refine Below.setCell ?_ (by first | omega | (simp; done) | (simp; omega)) _ | refine Below.trans ?_ (Below.mono (by assumption) (by first | omega | (simp; done) | (simp; omega)))))
    · have hH := H.out
      rw [List.drop_of_length_le (by omega), List.drop_of_length_le (by have := HL.out; omega)] at hH
      have HN : Hid (true = decide (l1 = l2)) := by show _ = _; rw [← hH]; simp
      clear hH H
      go_wp2_with (fail)
      go_ret
      exact RetV.bool HN.out hbl
end Go.Proofs.YtiedkcijjfmhaaaDoor
namespace Go.Proofs.YtiedkcijjfmhaaaDoor
open Go.RowKit

theorem In.lit {α : Type} {k : Nat} {cs : α → List Value} (hk : ∀ x, (cs x).length = k) (w : World) (l : List α) (t : TypeId) (n : Nat) (hn : n = l.length) (hl : l.length ≤ 4294967296) : In k cs (w.alloc (.cells (l.flatMap cs).toArray t)) (some ⟨w.heap.size, 0, none⟩) n l := by
  subst hn
  refine ⟨Nat.le_refl _, by omega, hl, .inr ⟨_, 0, rfl, by simp, fun i hi j u hu => ?_⟩⟩
  have hj : j < k := by rw [← hk l[i]]; exact (List.getElem?_eq_some_iff.1 hu).1
  rw [World.cell?_alloc_new, Nat.zero_add]
  have := flat_get (k := k) hk l i hi j hj
  rw [List.getElem?_toArray, this]; exact hu
end Go.Proofs.YtiedkcijjfmhaaaDoor
namespace Go.Proofs.YtiedkcijjfmhaaaDoor
open Go.RowKit

set_option maxHeartbeats 400000 in
theorem c_isNaN_int (x : Int) (w : World) : Calls Tryd.prog 91 #[.int .i64 x] w (RetV w (.bool false)) := by
  go_enter Tryd.func91, Tryd.ntmps91
  go_wp2_with (fail)
  go_ret
  exact RetV.bool (by simp) (by repeat (first | exact Below.refl _ _ | refine Below.drew ?_ | refine Below.alloc ?_ (by first | omega | (simp; done) | (simp; omega)) _ | refine Below.setCell ?_ (by first | omega | (simp; done) | (simp; omega)) _ | refine Below.trans ?_ (Below.mono (by assumption) (by first | omega | (simp; done) | (simp; omega)))))
set_option maxHeartbeats 400000 in
theorem c_isNaN_string (s : List UInt8) (w : World) : Calls Tryd.prog 104 #[.string (str s)] w (RetV w (.bool false)) := by
  go_enter Tryd.func104, Tryd.ntmps104
  go_wp2_with (fail)
  go_ret
  exact RetV.bool (by simp) (by repeat (first | exact Below.refl _ _ | refine Below.drew ?_ | refine Below.alloc ?_ (by first | omega | (simp; done) | (simp; omega)) _ | refine Below.setCell ?_ (by first | omega | (simp; done) | (simp; omega)) _ | refine Below.trans ?_ (Below.mono (by assumption) (by first | omega | (simp; done) | (simp; omega)))))
set_option maxHeartbeats 400000 in
theorem c_cmp_int (a b : Int) (w : World) : Calls Tryd.prog 70 #[.int .i64 a, .int .i64 b] w (RetV w (.int .i64 (cmpI a b))) := by
  have hc : (a < b ∧ Hid (cmpI a b = -1)) ∨ (a = b ∧ Hid (cmpI a b = 0)) ∨ (b < a ∧ Hid (cmpI a b = 1)) := by
    rcases Int.lt_trichotomy a b with h | h | h
    · exact .inl ⟨h, cmpI_lt h⟩
    · exact .inr (.inl ⟨h, cmpI_eq h⟩)
    · exact .inr (.inr ⟨h, cmpI_gt h⟩)
  rcases hc with ⟨h, H⟩ | ⟨rfl, H⟩ | ⟨h, H⟩
  all_goals (
    go_enter Tryd.func70, Tryd.ntmps70
    go_wp2_with (fail)
    refine (c_isNaN_int _ _).mono ?_
    rintro e w1 ⟨rfl, hb1⟩
    have hz1 := hb1.size
    go_wp2_with (fail)
    refine (c_isNaN_int _ _).mono ?_
    rintro e w2 ⟨rfl, hb2⟩
    go_wp2_with (fail)
    all_goals first
      | (exfalso; omega)
      | (go_ret; exact RetV.int H.out.symm (by repeat (first | exact Below.refl _ _ | refine Below.drew ?_ | refine Below.alloc ?_ (by first | omega | (simp; done) | (simp; omega)) _ | refine Below.setCell ?_ (by first | omega | (simp; done) | (simp; omega)) _ | refine Below.trans ?_ (Below.mono (by assumption) (by first | omega | (simp; done) | (simp; omega)))))))
set_option maxHeartbeats 400000 in
theorem c_cmp_string (a b : List UInt8) (w : World) : Calls Tryd.prog 92 #[.string (str a), .string (str b)] w (RetV w (.int .i64 (cmpS a b))) := by
  have hbd := cmpS_bd a b
  have hneg := cmpS_neg a b
  have l1 := bytesLess_cmp a b
  have l2 := beq_cmp a b
  have hc : (Op.bytesLess a b = true ∧ (a == b) = false ∧ Hid (cmpS a b = -1)) ∨ (Op.bytesLess a b = false ∧ (a == b) = true ∧ Hid (cmpS a b = 0)) ∨ (Op.bytesLess a b = false ∧ (a == b) = false ∧ Hid (cmpS a b = 1)) := by
    have : cmpS a b = -1 ∨ cmpS a b = 0 ∨ cmpS a b = 1 := by omega
    rcases this with h | h | h
    · exact .inl ⟨by rw [l1, h]; rfl, by rw [l2, h]; rfl, h⟩
    · exact .inr (.inl ⟨by rw [l1, h]; rfl, by rw [l2, h]; rfl, h⟩)
    · exact .inr (.inr ⟨by rw [l1, h]; rfl, by rw [l2, h]; rfl, h⟩)
  clear hbd hneg l1 l2
  rcases hc with ⟨h1, h2, H⟩ | ⟨h1, h2, H⟩ | ⟨h1, h2, H⟩
  all_goals (
    go_enter Tryd.func92, Tryd.ntmps92
    go_wp2_with (fail)
    refine (c_isNaN_string _ _).mono ?_
    rintro e w1 ⟨rfl, hb1⟩
    have hz1 := hb1.size
    go_wp2_with (fail)
    refine (c_isNaN_string _ _).mono ?_
    rintro e w2 ⟨rfl, hb2⟩
    go_wp2_with (fail)
    go_ret
    exact RetV.int H.out.symm (by repeat (first | exact Below.refl _ _ | refine Below.drew ?_ | refine Below.alloc ?_ (by first | omega | (simp; done) | (simp; omega)) _ | refine Below.setCell ?_ (by first | omega | (simp; done) | (simp; omega)) _ | refine Below.trans ?_ (Below.mono (by assumption) (by first | omega | (simp; done) | (simp; omega))))))
set_option maxHeartbeats 1000000 in
theorem c_value_Compare (x y : Val) (w : World) : Calls Tryd.prog 71 #[x.val, y.val] w (RetV w (.int .i64 (x.cmp y))) := by
  unfold Val.val
  by_cases h1 : cmpI x.kind y.kind = 0
  · have b1 : (cmpI x.kind y.kind != 0) = false := by simpa using h1
    by_cases h2 : cmpI x.n y.n = 0
    · have b2 : (cmpI x.n y.n != 0) = false := by simpa using h2
      have H : Hid (cmpS x.s y.s = x.cmp y) := by show _ = _; unfold Val.cmp; rw [if_neg (by simpa using h1), if_neg (by simpa using h2)]
      clear h1 h2
      go_enter Tryd.func71, Tryd.ntmps71
      go_wp2_with (fail)
      refine (c_cmp_int _ _ _).mono ?_
      rintro e w1 ⟨rfl, hb1⟩
      have hz1 := hb1.size
      simp only [World.size_alloc] at hz1
      have q1 := fun o => hb1.cell (p := ⟨w.heap.size, o, none⟩) (by simp; omega)
      have r1 := fun o => hb1.cell (p := ⟨w.heap.size + 1, o, none⟩) (by simp)
      go_wp2_with (fail)
      refine (c_cmp_int _ _ _).mono ?_
      rintro e w2 ⟨rfl, hb2⟩
      have hz2 := hb2.size
      have q2 := fun o => hb2.cell (p := ⟨w.heap.size, o, none⟩) (by show w.heap.size < _; omega)
      have r2 := fun o => hb2.cell (p := ⟨w.heap.size + 1, o, none⟩) (by show w.heap.size + 1 < _; omega)
      go_wp2_with (fail)
      refine (c_cmp_string _ _ _).mono ?_
      rintro e w3 ⟨rfl, hb3⟩
      go_wp2_with (fail)
      go_ret
      exact RetV.int H.out (by repeat (first | exact Below.refl _ _ | refine Below.drew ?_ | refine Below.alloc ?_ (by first | omega | (simp; done) | (simp; omega)) _ | refine Below.setCell ?_ (by first | omega | (simp; done) | (simp; omega)) _ | refine Below.trans ?_ (Below.mono (by assumption) (by first | omega | (simp; done) | (simp; omega)))))
    · have b2 : (cmpI x.n y.n != 0) = true := by simpa using h2
      have H : Hid (cmpI x.n y.n = x.cmp y) := by show _ = _; unfold Val.cmp; rw [if_neg (by simpa using h1), if_pos h2]
      clear h1 h2
      go_enter Tryd.func71, Tryd.ntmps71
      go_wp2_with (fail)
      refine (c_cmp_int _ _ _).mono ?_
      rintro e w1 ⟨rfl, hb1⟩
      have hz1 := hb1.size
      simp only [World.size_alloc] at hz1
      have q1 := fun o => hb1.cell (p := ⟨w.heap.size, o, none⟩) (by simp; omega)
      have r1 := fun o => hb1.cell (p := ⟨w.heap.size + 1, o, none⟩) (by simp)
      go_wp2_with (fail)
      refine (c_cmp_int _ _ _).mono ?_
      rintro e w2 ⟨rfl, hb2⟩
      go_wp2_with (fail)
      go_ret
      exact RetV.int H.out (by repeat (first | exact Below.refl _ _ | refine Below.drew ?_ | refine Below.alloc ?_ (by first | omega | (simp; done) | (simp; omega)) _ | refine Below.setCell ?_ (by first | omega | (simp; done) | (simp; omega)) _ | refine Below.trans ?_ (Below.mono (by assumption) (by first | omega | (simp; done) | (simp; omega)))))
  · have b1 : (cmpI x.kind y.kind != 0) = true := by simpa using h1
    have H : Hid (cmpI x.kind y.kind = x.cmp y) := by show _ = _; unfold Val.cmp; rw [if_pos h1]
    clear h1
    go_enter Tryd.func71, Tryd.ntmps71
    go_wp2_with (fail)
    refine (c_cmp_int _ _ _).mono ?_
    rintro e w1 ⟨rfl, hb1⟩
    go_wp2_with (fail)
    go_ret
    exact RetV.int H.out (by repeat (first | exact Below.refl _ _ | refine Below.drew ?_ | refine Below.alloc ?_ (by first | omega | (simp; done) | (simp; omega)) _ | refine Below.setCell ?_ (by first | omega | (simp; done) | (simp; omega)) _ | refine Below.trans ?_ (Below.mono (by assumption) (by first | omega | (simp; done) | (simp; omega)))))
end Go.Proofs.YtiedkcijjfmhaaaDoor
