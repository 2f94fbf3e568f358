/-
  Lemmas (walks and plain laws), in one text.
-/
import Derived.Test.YtiedkcijjfmhaaaGreatDoorSr2
import Derived.Test.YtiedkcijjfmhaaaGreatDoorSr7
import Derived.Test.YtiedkcijjfmhaaaGreatDoorSr8
namespace Go.Proofs.YtiedkcijjfmhaaaGreatDoor
open Go.RowKit

theorem neq_node (x y : Node) (w : World) (h : x ≠ y) : (binOp .neq 96 x.val y.val).run Tryz.prog w = .ok (.bool true) w := by
  obtain ⟨o1, n1, k1, m1, s1⟩ := x
  obtain ⟨o2, n2, k2, m2, s2⟩ := y
  unfold Node.val
  by_cases h1 : o1 = o2
  · by_cases h2 : n1 = n2
    · by_cases h3 : k1 = k2
      · by_cases h4 : m1 = m2
        · have h5 : s1 ≠ s2 := fun e => h (by rw [h1, h2, h3, h4, e])
          have h7 : str s1 ≠ str s2 := fun e => h5 (str_inj e)
          simp [go_sem, h1, h2, h3, h4, h5]
        · simp [go_sem, h1, h2, h3, h4]
      · simp [go_sem, h1, h2, h3]
    · simp [go_sem, h1, h2]
  · simp [go_sem, h1]
set_option maxHeartbeats 400000 in
theorem c_ref10_Same (l1 l2 : List Node) (A1 A2 : Option Addr) (c1 c2 : Nat) (w : World) (h1 : InN w A1 c1 l1) (h2 : InN w A2 c2 l2) :
    Calls Tryz.prog 39 #[.slice A1 l1.length c1, .slice A2 l2.length c2] w (RetV w (.bool (decide (l1 = l2)))) := by
  have hL1 := h1.1
  have hC1 := h1.2.1
  have hS1 := h1.2.2.1
  have hL2 := h2.1
  have hC2 := h2.2.1
  have hS2 := h2.2.2.1
  by_cases hlen : l1.length = l2.length
  case neg =>
    have H : Hid (false = decide (l1 = l2)) := by
      show _ = _
      symm
      rw [decide_eq_false_iff_not]
      exact fun e => hlen (by rw [e])
    go_enter Tryz.func39, Tryz.ntmps39
    go_wp2_with (fail)
    go_ret
    exact RetV.bool H.out (by repeat (first | exact Below.refl _ _ | refine Below.drew ?_ | refine Below.alloc ?_ (by first | omega | (simp; done) | (simp; omega)) _ | refine Below.setCell ?_ (by first | omega | (simp; done) | (simp; omega)) _ | refine Below.trans ?_ (Below.mono (by assumption) (by first | omega | (simp; done) | (simp; omega)))))
  have hd : ((l1.length : Int) != (l2.length : Int)) = false := by rw [hlen]; simp
  have HL := Lib.hid hlen
  clear hlen
  go_enter Tryz.func39, Tryz.ntmps39
  go_wp2_with (fail)
  go_loopw [5] (fun i wr => ∃ k : Nat, k ≤ l1.length ∧ i = .int .i64 k ∧ Hid (decide (l1.drop k = l2.drop k) = decide (l1 = l2)) ∧ Below w.heap.size w wr) (fun i _ => l1.length - (intOf i).toNat)
  case atStart => exact ⟨0, by omega, rfl, by simp [Hid], Below.refl _ _⟩
  case round =>
    obtain ⟨k, hk, rfl, H, hbl⟩ := hrel
    have hbz := hbl.size
    by_cases hlt : k < l1.length
    · have hlt2 : k < l2.length := by have := HL.out; omega
      obtain ⟨b1, off1, rfl, hb1, hrow1⟩ := h1.at hlt
      obtain ⟨b2, off2, rfl, hb2, hrow2⟩ := h2.at hlt2
      obtain ⟨e0, e1, e2, e3, e4⟩ := (hrow1.below hbl hb1).node hlt rfl
      obtain ⟨f0, f1, f2, f3, f4⟩ := (hrow2.below hbl hb2).node hlt2 rfl
      have hbr1 : b1 < wr.heap.size := by omega
      have hbr2 : b2 < wr.heap.size := by omega
      have hi1 : (0 : Int) ≤ (k : Int) := by omega
      have hi2 : (k : Int) < (l1.length : Int) := by omega
      have hi3 : (k : Int) < (l2.length : Int) := by omega
      have hH := H.out
      rw [List.drop_eq_getElem_cons hlt, List.drop_eq_getElem_cons hlt2] at hH
      clear h1 h2 H
      by_cases hx : l1[k] = l2[k]
      · have HN : Hid (decide (l1.drop (k + 1) = l2.drop (k + 1)) = decide (l1 = l2)) := by show _ = _; rw [← hH, hx]; simp only [List.cons.injEq, true_and]
        rw [← hx] at f0 f1 f2 f3 f4
        clear hH hx
        go_wp2_with (fail)
        refine wp_region_grow (by kernel_rfl) (by kernel_rfl) ?_
        repeat (quiet_step ((first | fail)))
        refine wpQuiet_nil ?_
        intro w2 hb2
        go_wp2_with (fail)
        go_roundw
        case rel => exact ⟨k + 1, by omega, by go_num, HN.out, (by repeat (first | exact Below.refl _ _ | refine Below.drew ?_ | refine Below.alloc ?_ (by first | omega | (simp; done) | (simp; omega)) _ | refine Below.setCell ?_ (by first | omega | (simp; done) | (simp; omega)) _ | refine Below.trans ?_ (Below.mono (by assumption) (by first | omega | (simp; done) | (simp; omega)))))⟩
        case measure => simp [intOf]; omega
      · have HN : Hid (false = decide (l1 = l2)) := by show _ = _; rw [← hH]; symm; rw [decide_eq_false_iff_not]; intro e; injection e with e; exact hx e
        have kn := fun w => neq_node l1[k] l2[k] w hx
        clear hH
        go_wp2_with (fail)
        refine wp_region_grow (by kernel_rfl) (by kernel_rfl) ?_
        repeat (quiet_step ((first | fail)))
        refine wpQuiet_nil ?_
        intro w2 hb2
        go_wp2_with (fail)
        go_ret
        exact RetV.bool HN.out (by repeat (first | exact Below.refl _ _ | refine Below.drew ?_ | refine Below.alloc ?_ (by first | omega | (simp; done) | (simp; omega)) _ | refine Below.setCell ?_ (by first | omega | (simp; done) | (simp; omega)) _ | refine Below.trans ?_ (Below.mono (by assumption) (by first | omega | (simp; done) | (simp; omega)))))
    · have hH := H.out
      rw [List.drop_of_length_le (by omega), List.drop_of_length_le (by have := HL.out; omega)] at hH
      have HN : Hid (true = decide (l1 = l2)) := by show _ = _; rw [← hH]; simp
      clear hH H
      go_wp2_with (fail)
      go_ret
      exact RetV.bool HN.out hbl
end Go.Proofs.YtiedkcijjfmhaaaGreatDoor
namespace Go.Proofs.YtiedkcijjfmhaaaGreatDoor
open Go.RowKit

theorem In.lit {α : Type} {k : Nat} {cs : α → List Value} (hk : ∀ x, (cs x).length = k) (w : World) (l : List α) (t : TypeId) (n : Nat) (hn : n = l.length) (hl : l.length ≤ 4294967296) : In k cs (w.alloc (.cells (l.flatMap cs).toArray t)) (some ⟨w.heap.size, 0, none⟩) n l := by
  subst hn
  refine ⟨Nat.le_refl _, by omega, hl, .inr ⟨_, 0, rfl, by simp, fun i hi j u hu => ?_⟩⟩
  have hj : j < k := by rw [← hk l[i]]; exact (List.getElem?_eq_some_iff.1 hu).1
  rw [World.cell?_alloc_new, Nat.zero_add]
  have := flat_get (k := k) hk l i hi j hj
  rw [List.getElem?_toArray, this]; exact hu
end Go.Proofs.YtiedkcijjfmhaaaGreatDoor
namespace Go.Proofs.YtiedkcijjfmhaaaGreatDoor
open Go.RowKit

set_option maxHeartbeats 400000 in
theorem c_isNaN_int (x : Int) (w : World) : Calls Tryz.prog 104 #[.int .i64 x] w (RetV w (.bool false)) := by
  go_enter Tryz.func104, Tryz.ntmps104
  go_wp2_with (fail)
  go_ret
  exact RetV.bool (by simp) (by repeat (first | exact Below.refl _ _ | refine Below.drew ?_ | refine Below.alloc ?_ (by first | omega | (simp; done) | (simp; omega)) _ | refine Below.setCell ?_ (by first | omega | (simp; done) | (simp; omega)) _ | refine Below.trans ?_ (Below.mono (by assumption) (by first | omega | (simp; done) | (simp; omega)))))
set_option maxHeartbeats 400000 in
theorem c_isNaN_string (s : List UInt8) (w : World) : Calls Tryz.prog 109 #[.string (str s)] w (RetV w (.bool false)) := by
  go_enter Tryz.func109, Tryz.ntmps109
  go_wp2_with (fail)
  go_ret
  exact RetV.bool (by simp) (by repeat (first | exact Below.refl _ _ | refine Below.drew ?_ | refine Below.alloc ?_ (by first | omega | (simp; done) | (simp; omega)) _ | refine Below.setCell ?_ (by first | omega | (simp; done) | (simp; omega)) _ | refine Below.trans ?_ (Below.mono (by assumption) (by first | omega | (simp; done) | (simp; omega)))))
set_option maxHeartbeats 400000 in
theorem c_cmp_int (a b : Int) (w : World) : Calls Tryz.prog 98 #[.int .i64 a, .int .i64 b] w (RetV w (.int .i64 (cmpI a b))) := by
  have hc : (a < b ∧ Hid (cmpI a b = -1)) ∨ (a = b ∧ Hid (cmpI a b = 0)) ∨ (b < a ∧ Hid (cmpI a b = 1)) := by
    rcases Int.lt_trichotomy a b with h | h | h
    · exact .inl ⟨h, cmpI_lt h⟩
    · exact .inr (.inl ⟨h, cmpI_eq h⟩)
    · exact .inr (.inr ⟨h, cmpI_gt h⟩)
  rcases hc with ⟨h, H⟩ | ⟨rfl, H⟩ | ⟨h, H⟩
  all_goals (
    go_enter Tryz.func98, Tryz.ntmps98
    go_wp2_with (fail)
    refine (c_isNaN_int _ _).mono ?_
    rintro e w1 ⟨rfl, hb1⟩
    have hz1 := hb1.size
    go_wp2_with (fail)
    refine (c_isNaN_int _ _).mono ?_
    rintro e w2 ⟨rfl, hb2⟩
    go_wp2_with (fail)
    all_goals first
      | (exfalso; omega)
      | (go_ret; exact RetV.int H.out.symm (by repeat (first | exact Below.refl _ _ | refine Below.drew ?_ | refine Below.alloc ?_ (by first | omega | (simp; done) | (simp; omega)) _ | refine Below.setCell ?_ (by first | omega | (simp; done) | (simp; omega)) _ | refine Below.trans ?_ (Below.mono (by assumption) (by first | omega | (simp; done) | (simp; omega)))))))
set_option maxHeartbeats 400000 in
theorem c_cmp_string (a b : List UInt8) (w : World) : Calls Tryz.prog 105 #[.string (str a), .string (str b)] w (RetV w (.int .i64 (cmpS a b))) := by
  have hbd := cmpS_bd a b
  have hneg := cmpS_neg a b
  have l1 := bytesLess_cmp a b
  have l2 := beq_cmp a b
  have hc : (Op.bytesLess a b = true ∧ (a == b) = false ∧ Hid (cmpS a b = -1)) ∨ (Op.bytesLess a b = false ∧ (a == b) = true ∧ Hid (cmpS a b = 0)) ∨ (Op.bytesLess a b = false ∧ (a == b) = false ∧ Hid (cmpS a b = 1)) := by
    have : cmpS a b = -1 ∨ cmpS a b = 0 ∨ cmpS a b = 1 := by omega
    rcases this with h | h | h
    · exact .inl ⟨by rw [l1, h]; rfl, by rw [l2, h]; rfl, h⟩
    · exact .inr (.inl ⟨by rw [l1, h]; rfl, by rw [l2, h]; rfl, h⟩)
    · exact .inr (.inr ⟨by rw [l1, h]; rfl, by rw [l2, h]; rfl, h⟩)
  clear hbd hneg l1 l2
  rcases hc with ⟨h1, h2, H⟩ | ⟨h1, h2, H⟩ | ⟨h1, h2, H⟩
  all_goals (
    go_enter Tryz.func105, Tryz.ntmps105
    go_wp2_with (fail)
    refine (c_isNaN_string _ _).mono ?_
    rintro e w1 ⟨rfl, hb1⟩
    have hz1 := hb1.size
    go_wp2_with (fail)
    refine (c_isNaN_string _ _).mono ?_
    rintro e w2 ⟨rfl, hb2⟩
    go_wp2_with (fail)
    go_ret
    exact RetV.int H.out.symm (by repeat (first | exact Below.refl _ _ | refine Below.drew ?_ | refine Below.alloc ?_ (by first | omega | (simp; done) | (simp; omega)) _ | refine Below.setCell ?_ (by first | omega | (simp; done) | (simp; omega)) _ | refine Below.trans ?_ (Below.mono (by assumption) (by first | omega | (simp; done) | (simp; omega))))))
set_option maxHeartbeats 1000000 in
theorem c_value_Compare (x y : Val) (w : World) : Calls Tryz.prog 99 #[x.val, y.val] w (RetV w (.int .i64 (x.cmp y))) := by
  unfold Val.val
  by_cases h1 : cmpI x.kind y.kind = 0
  · have b1 : (cmpI x.kind y.kind != 0) = false := by simpa using h1
    by_cases h2 : cmpI x.n y.n = 0
    · have b2 : (cmpI x.n y.n != 0) = false := by simpa using h2
      have H : Hid (cmpS x.s y.s = x.cmp y) := by show _ = _; unfold Val.cmp; rw [if_neg (by simpa using h1), if_neg (by simpa using h2)]
      clear h1 h2
      go_enter Tryz.func99, Tryz.ntmps99
      go_wp2_with (fail)
      refine (c_cmp_int _ _ _).mono ?_
      rintro e w1 ⟨rfl, hb1⟩
      have hz1 := hb1.size
      simp only [World.size_alloc] at hz1
      have q1 := fun o => hb1.cell (p := ⟨w.heap.size, o, none⟩) (by simp; omega)
      have r1 := fun o => hb1.cell (p := ⟨w.heap.size + 1, o, none⟩) (by simp)
      go_wp2_with (fail)
      refine (c_cmp_int _ _ _).mono ?_
      rintro e w2 ⟨rfl, hb2⟩
      have hz2 := hb2.size
      have q2 := fun o => hb2.cell (p := ⟨w.heap.size, o, none⟩) (by show w.heap.size < _; omega)
      have r2 := fun o => hb2.cell (p := ⟨w.heap.size + 1, o, none⟩) (by show w.heap.size + 1 < _; omega)
      go_wp2_with (fail)
      refine (c_cmp_string _ _ _).mono ?_
      rintro e w3 ⟨rfl, hb3⟩
      go_wp2_with (fail)
      go_ret
      exact RetV.int H.out (by repeat (first | exact Below.refl _ _ | refine Below.drew ?_ | refine Below.alloc ?_ (by first | omega | (simp; done) | (simp; omega)) _ | refine Below.setCell ?_ (by first | omega | (simp; done) | (simp; omega)) _ | refine Below.trans ?_ (Below.mono (by assumption) (by first | omega | (simp; done) | (simp; omega)))))
    · have b2 : (cmpI x.n y.n != 0) = true := by simpa using h2
      have H : Hid (cmpI x.n y.n = x.cmp y) := by show _ = _; unfold Val.cmp; rw [if_neg (by simpa using h1), if_pos h2]
      clear h1 h2
      go_enter Tryz.func99, Tryz.ntmps99
      go_wp2_with (fail)
      refine (c_cmp_int _ _ _).mono ?_
      rintro e w1 ⟨rfl, hb1⟩
      have hz1 := hb1.size
      simp only [World.size_alloc] at hz1
      have q1 := fun o => hb1.cell (p := ⟨w.heap.size, o, none⟩) (by simp; omega)
      have r1 := fun o => hb1.cell (p := ⟨w.heap.size + 1, o, none⟩) (by simp)
      go_wp2_with (fail)
      refine (c_cmp_int _ _ _).mono ?_
      rintro e w2 ⟨rfl, hb2⟩
      go_wp2_with (fail)
      go_ret
      exact RetV.int H.out (by repeat (first | exact Below.refl _ _ | refine Below.drew ?_ | refine Below.alloc ?_ (by first | omega | (simp; done) | (simp; omega)) _ | refine Below.setCell ?_ (by first | omega | (simp; done) | (simp; omega)) _ | refine Below.trans ?_ (Below.mono (by assumption) (by first | omega | (simp; done) | (simp; omega)))))
  · have b1 : (cmpI x.kind y.kind != 0) = true := by simpa using h1
    have H : Hid (cmpI x.kind y.kind = x.cmp y) := by show _ = _; unfold Val.cmp; rw [if_pos h1]
    clear h1
    go_enter Tryz.func99, Tryz.ntmps99
    go_wp2_with (fail)
    refine (c_cmp_int _ _ _).mono ?_
    rintro e w1 ⟨rfl, hb1⟩
    go_wp2_with (fail)
    go_ret
    exact RetV.int H.out (by repeat (first | exact Below.refl _ _ | refine Below.drew ?_ | refine Below.alloc ?_ (by first | omega | (simp; done) | (simp; omega)) _ | refine Below.setCell ?_ (by first | omega | (simp; done) | (simp; omega)) _ | refine Below.trans ?_ (Below.mono (by assumption) (by first | omega | (simp; done) | (simp; omega)))))
end Go.Proofs.YtiedkcijjfmhaaaGreatDoor
namespace Go.Proofs.YtiedkcijjfmhaaaGreatDoor
open Go.RowKit

def icn (x : Int) : List Value := [.int .i64 x]
theorem icn_len (x : Int) : (icn x).length = 1 := rfl
def orL : List Int → Int
  | [] => 0
  | x :: r => if x ≠ 0 then x else orL r
theorem orL_at (l : List Int) (k : Nat) (h : k < l.length) : orL (l.drop k) = if l[k] ≠ 0 then l[k] else orL (l.drop (k + 1)) := by
  rw [List.drop_eq_getElem_cons h]; rfl
theorem Row.int1 {w : World} {b off : Nat} {l : List Int} (h : Row 1 icn w b off l) {i : Nat} (hi : i < l.length) : w.cell? ⟨b, off + i, none⟩ = some (.int .i64 l[i]) := by
  have := h i hi 0 _ rfl
  simpa using this
set_option maxHeartbeats 400000 in
theorem c_cmp_Or (l : List Int) (A : Option Addr) (c : Nat) (w : World) (h : In 1 icn w A c l) : Calls Tryz.prog 97 #[.slice A l.length c] w (RetV w (.int .i64 (orL l))) := by
  have hL := h.1
  have hC := h.2.1
  have hS := h.2.2.1
  have H0 : Hid (orL (l.drop 0) = orL l) := rfl
  go_enter Tryz.func97, Tryz.ntmps97
  go_wp2_with (fail)
  go_loopw [5, 8] (fun v i wr => ∃ k : Nat, k ≤ l.length ∧ i = .int .i64 k ∧ Hid (orL (l.drop k) = orL l) ∧ Below w.heap.size w wr) (fun _ i _ => l.length - (intOf i).toNat)
  case atStart => exact ⟨0, by omega, rfl, H0, Below.refl _ _⟩
  case round =>
    obtain ⟨k, hk, rfl, H, hbl⟩ := hrel
    have hbz := hbl.size
    by_cases hlt : k < l.length
    · obtain ⟨b, off, rfl, hb, hrow⟩ := h.at hlt
      have e0 := (hrow.below hbl hb).int1 hlt
      have hH := H.out
      rw [orL_at l k hlt] at hH
      clear h H H0
      by_cases hx : l[k] = 0
      · rw [if_neg (fun h => h hx)] at hH
        have HN := Lib.hid hH
        have bx : (l[k] != 0) = false := by simpa using hx
        clear hH hx
        go_wp2_with (fail)
        go_roundw
        case rel => exact ⟨k + 1, by omega, by go_num, HN.out, hbl⟩
        case measure => simp [intOf]; omega
      · rw [if_pos hx] at hH
        have HN := Lib.hid hH
        have bx : (l[k] != 0) = true := by simpa using hx
        clear hH hx
        go_wp2_with (fail)
        go_ret
        exact RetV.int HN.out hbl
    · have hH := H.out
      rw [List.drop_of_length_le (by omega)] at hH
      have HN := Lib.hid hH
      clear hH H H0
      go_wp2_with (fail)
      go_ret
      exact RetV.int HN.out hbl
theorem Node.cmp_or (x y : Node) : orL [cmpI x.op y.op, cmpI x.n y.n, x.v.cmp y.v] = x.cmp y := by
  unfold Node.cmp orL orL orL orL
  by_cases h1 : cmpI x.op y.op = 0 <;> by_cases h2 : cmpI x.n y.n = 0 <;> by_cases h3 : x.v.cmp y.v = 0 <;> simp [h1, h2, h3]
set_option maxHeartbeats 1000000 in
theorem c_pred_Compare1 (x y : Node) (w : World) : Calls Tryz.prog 96 #[x.val, y.val] w (RetV w (.int .i64 (x.cmp y))) := by
  unfold Node.val
  have H := Lib.hid (Node.cmp_or x y)
  go_enter Tryz.func96, Tryz.ntmps96
  go_wp2_with (fail)
  have hs1 : w.heap.size < w.heap.size + 1 + 1 := by omega
  have hs2 : w.heap.size + 1 < w.heap.size + 1 + 1 := by omega
  refine wp_region_tail 15 (by kernel_rfl) (by kernel_rfl) ?_
  simp only [List.take_succ_cons, List.take_zero, List.drop_succ_cons, List.drop_zero]
  repeat (quiet_step ((first | (go_at_call 98; exact quiet_grow (c_cmp_int _ _ _)) | (go_at_call 99; exact quiet_grow (c_value_Compare x.v y.v _)))))
  refine wpQuiet_nil ?_
  intro w2 hb2
  have hz2 := hb2.size
  simp only [World.size_alloc] at hz2
  go_wp2_with (fail)
  refine (c_cmp_Or [cmpI x.op y.op, cmpI x.n y.n, x.v.cmp y.v] _ 3 _ (In.lit icn_len w2 [cmpI x.op y.op, cmpI x.n y.n, x.v.cmp y.v] 3 3 rfl (by simp))).mono ?_
  rintro e w3 ⟨rfl, hb3⟩
  go_wp2_with (fail)
  go_ret
  exact RetV.int H.out (by repeat (first | exact Below.refl _ _ | refine Below.drew ?_ | refine Below.alloc ?_ (by first | omega | (simp; done) | (simp; omega)) _ | refine Below.setCell ?_ (by first | omega | (simp; done) | (simp; omega)) _ | refine Below.trans ?_ (Below.mono (by assumption) (by first | omega | (simp; done) | (simp; omega)))))
set_option maxHeartbeats 1000000 in
theorem c_CompareFunc (l1 l2 : List Node) (A1 A2 : Option Addr) (c1 c2 : Nat) (w : World) (h1 : InN w A1 c1 l1) (h2 : InN w A2 c2 l2) :
    Calls Tryz.prog 95 #[.slice A1 l1.length c1, .slice A2 l2.length c2, .func (.func 96) #[] #[]] w (RetV w (.int .i64 (cmpL l1 l2))) := by
  have hL1 := h1.1
  have hC1 := h1.2.1
  have hS1 := h1.2.2.1
  have hL2 := h2.1
  have hC2 := h2.2.1
  have hS2 := h2.2.2.1
  have H0 : Hid (cmpL (l1.drop 0) (l2.drop 0) = cmpL l1 l2) := by show _ = _; rw [List.drop_zero, List.drop_zero]
  go_enter Tryz.func95, Tryz.ntmps95
  go_wp2_with (fail)
  go_loopw [13] (fun i wr => ∃ k : Nat, k ≤ l1.length ∧ k ≤ l2.length ∧ i = .int .i64 k ∧ Hid (cmpL (l1.drop k) (l2.drop k) = cmpL l1 l2) ∧ Below w.heap.size w wr) (fun i _ => l1.length - (intOf i).toNat)
  case atStart => exact ⟨0, by omega, by omega, rfl, H0, Below.refl _ _⟩
  case round =>
    obtain ⟨k, hk1, hk2, rfl, H, hbl⟩ := hrel
    have hbz := hbl.size
    have hH := H.out
    clear H H0
    by_cases hlt1 : k < l1.length
    · obtain ⟨b1, off1, rfl, hb1, hrow1⟩ := h1.at hlt1
      obtain ⟨e0, e1, e2, e3, e4⟩ := (hrow1.below hbl hb1).node hlt1 rfl
      by_cases hlt2 : k < l2.length
      · obtain ⟨b2, off2, rfl, hb2, hrow2⟩ := h2.at hlt2
        obtain ⟨f0, f1, f2, f3, f4⟩ := (hrow2.below hbl hb2).node hlt2 rfl
        have hbr1 : b1 < wr.heap.size := by omega
        have hbr2 : b2 < wr.heap.size := by omega
        rw [cmpL_at _ _ k hlt1 hlt2] at hH
        clear h1 h2
        by_cases hx : l1[k].cmp l2[k] = 0
        · rw [if_neg (fun h => h hx)] at hH
          have HN := Lib.hid hH
          have bx : (l1[k].cmp l2[k] != 0) = false := by simpa using hx
          clear hH hx
          go_wp2_with (go_at_call 96; refine (c_pred_Compare1 l1[k] l2[k] _).mono ?_; rintro e w3 ⟨rfl, hb3⟩)
          go_roundw
          case rel => exact ⟨k + 1, by omega, by omega, by go_num, HN.out, (by repeat (first | exact Below.refl _ _ | refine Below.drew ?_ | refine Below.alloc ?_ (by first | omega | (simp; done) | (simp; omega)) _ | refine Below.setCell ?_ (by first | omega | (simp; done) | (simp; omega)) _ | refine Below.trans ?_ (Below.mono (by assumption) (by first | omega | (simp; done) | (simp; omega)))))⟩
          case measure => simp [intOf]; omega
        · rw [if_pos hx] at hH
          have HN := Lib.hid hH
          have bx : (l1[k].cmp l2[k] != 0) = true := by simpa using hx
          clear hH hx
          go_wp2_with (go_at_call 96; refine (c_pred_Compare1 l1[k] l2[k] _).mono ?_; rintro e w3 ⟨rfl, hb3⟩)
          go_ret
          exact RetV.int HN.out (by repeat (first | exact Below.refl _ _ | refine Below.drew ?_ | refine Below.alloc ?_ (by first | omega | (simp; done) | (simp; omega)) _ | refine Below.setCell ?_ (by first | omega | (simp; done) | (simp; omega)) _ | refine Below.trans ?_ (Below.mono (by assumption) (by first | omega | (simp; done) | (simp; omega)))))
      · rw [cmpL_right _ _ k hlt1 (by omega)] at hH
        have HN := Lib.hid hH
        clear hH h1 h2
        go_wp2_with (fail)
        go_ret
        exact RetV.int HN.out (by repeat (first | exact Below.refl _ _ | refine Below.drew ?_ | refine Below.alloc ?_ (by first | omega | (simp; done) | (simp; omega)) _ | refine Below.setCell ?_ (by first | omega | (simp; done) | (simp; omega)) _ | refine Below.trans ?_ (Below.mono (by assumption) (by first | omega | (simp; done) | (simp; omega)))))
    · by_cases hlt2 : k < l2.length
      · rw [cmpL_left _ _ k (by omega) hlt2] at hH
        have HN := Lib.hid hH
        have g1 : l1.length < l2.length := by omega
        clear hH
        go_wp2_with (fail)
        go_ret
        exact RetV.int HN.out hbl
      · rw [List.drop_of_length_le (by omega), List.drop_of_length_le (by omega)] at hH
        have HN := Lib.hid hH
        have g1 : ¬ l1.length < l2.length := by omega
        clear hH
        go_wp2_with (fail)
        go_ret
        exact RetV.int HN.out hbl
set_option maxHeartbeats 400000 in
theorem c_pred_Compare (l1 l2 : List Node) (A1 A2 : Option Addr) (c1 c2 : Nat) (w : World) (h1 : InN w A1 c1 l1) (h2 : InN w A2 c2 l2) :
    Calls Tryz.prog 77 #[.slice A1 l1.length c1, .slice A2 l2.length c2] w (RetV w (.int .i64 (cmpL l1 l2))) := by
  have hL1 := h1.1
  have hC1 := h1.2.1
  have hL2 := h2.1
  have hC2 := h2.2.1
  have H1 := Lib.hid h1
  have H2 := Lib.hid h2
  clear h1 h2
  go_enter Tryz.func77, Tryz.ntmps77
  go_wp2_with (fail)
  refine (c_CompareFunc l1 l2 _ _ _ _ _ H1.out H2.out).mono ?_
  rintro e w3 ⟨rfl, hb3⟩
  go_wp2_with (fail)
  go_ret
  exact RetV.int rfl hb3
end Go.Proofs.YtiedkcijjfmhaaaGreatDoor
