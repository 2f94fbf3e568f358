/-
  The walks of the reference's functions that tell which of two values, nodes, lists stands ahead.
-/
import Derived.Test.YtoekhnppcakdnaaW10j
namespace Go.Proofs.Ytoekhnppcakdnaa
open Go.RowKit

theorem cmpS_step (a b : List UInt8) (k : Nat) (ha : k < a.length) (hb : k < b.length) : cmpS (a.drop k) (b.drop k) = if cmpI a[k].toNat b[k].toNat ≠ 0 then cmpI a[k].toNat b[k].toNat else cmpS (a.drop (k + 1)) (b.drop (k + 1)) := by
  rw [List.drop_eq_getElem_cons ha, List.drop_eq_getElem_cons hb]
  show (if a[k].toNat < b[k].toNat then _ else _) = _
  by_cases h1 : a[k].toNat < b[k].toNat
  · rw [if_pos h1, cmpI_lt (by omega)]; rfl
  · rw [if_neg h1]
    by_cases h2 : b[k].toNat < a[k].toNat
    · rw [if_pos h2, cmpI_gt (by omega)]; rfl
    · rw [if_neg h2, cmpI_eq (by omega)]; rfl
theorem cmpS_end (a b : List UInt8) (k : Nat) (ha : k ≤ a.length) (hb : k ≤ b.length) (h : ¬ (k < a.length ∧ k < b.length)) : cmpS (a.drop k) (b.drop k) = cmpI a.length b.length := by
  by_cases h1 : k < a.length
  · have h2 : b.length ≤ k := by omega
    rw [List.drop_of_length_le h2, List.drop_eq_getElem_cons h1, cmpI_gt (by omega)]; rfl
  · rw [List.drop_of_length_le (by omega : a.length ≤ k)]
    by_cases h2 : k < b.length
    · rw [List.drop_eq_getElem_cons h2, cmpI_lt (by omega)]; rfl
    · rw [List.drop_of_length_le (by omega : b.length ≤ k), cmpI_eq (by omega)]; rfl
set_option maxHeartbeats 1000000 in
theorem c_ref04_Compare (x y : Val) (w : World) (hsx : x.s.length ≤ 4294967296) (hsy : y.s.length ≤ 4294967296) : Calls Try.prog 114 #[x.val, y.val] w (RetV w (.int .i64 (x.cmp y))) := by
  unfold Val.val
  by_cases h1 : x.kind = y.kind
  case neg =>
    have b1 : (x.kind != y.kind) = true := by simpa using h1
    have H : Hid (cmpI x.kind y.kind = x.cmp y) := by show _ = _; unfold Val.cmp; rw [if_pos (mt cmpI_zero.1 h1)]
    clear h1
    go_enter Try.func114, Try.ntmps114
    go_wp2_with (fail)
    refine (c_ref04_ahead _ _ _).mono ?_
    rintro e w1 ⟨rfl, hb1⟩
    go_wp2_with (fail)
    go_ret
    exact RetV.int H.out (by repeat (first | exact Below.refl _ _ | refine Below.drew ?_ | refine Below.alloc ?_ (by first | omega | (simp; done) | (simp; omega)) _ | refine Below.setCell ?_ (by first | omega | (simp; done) | (simp; omega)) _ | refine Below.trans ?_ (Below.mono (by assumption) (by first | omega | (simp; done) | (simp; omega)))))
  have b1 : (x.kind != y.kind) = false := by simpa using h1
  by_cases h2 : x.n = y.n
  case neg =>
    have b2 : (x.n != y.n) = true := by simpa using h2
    have H : Hid (cmpI x.n y.n = x.cmp y) := by show _ = _; unfold Val.cmp; rw [if_neg (by simp [cmpI_eq h1]), if_pos (mt cmpI_zero.1 h2)]
    clear h1 h2
    go_enter Try.func114, Try.ntmps114
    go_wp2_with (fail)
    refine (c_ref04_ahead _ _ _).mono ?_
    rintro e w1 ⟨rfl, hb1⟩
    go_wp2_with (fail)
    go_ret
    exact RetV.int H.out (by repeat (first | exact Below.refl _ _ | refine Below.drew ?_ | refine Below.alloc ?_ (by first | omega | (simp; done) | (simp; omega)) _ | refine Below.setCell ?_ (by first | omega | (simp; done) | (simp; omega)) _ | refine Below.trans ?_ (Below.mono (by assumption) (by first | omega | (simp; done) | (simp; omega)))))
  have b2 : (x.n != y.n) = false := by simpa using h2
  have H : Hid (cmpS (x.s.drop 0) (y.s.drop 0) = x.cmp y) := by show _ = _; unfold Val.cmp; rw [if_neg (by simp [cmpI_eq h1]), if_neg (by simp [cmpI_eq h2])]; simp
  clear h1 h2
  go_enter Try.func114, Try.ntmps114
  go_wp2_with (fail)
  go_loopw [5] (fun i wr => ∃ k : Nat, k ≤ x.s.length ∧ k ≤ y.s.length ∧ i = .int .i64 k ∧ Hid (cmpS (x.s.drop k) (y.s.drop k) = x.cmp y) ∧ w.heap.size + 1 < wr.heap.size ∧
      wr.cell? ⟨w.heap.size, 2, none⟩ = some (.string (str x.s)) ∧ wr.cell? ⟨w.heap.size + 1, 2, none⟩ = some (.string (str y.s)) ∧ Below w.heap.size w wr) (fun i _ => x.s.length - (intOf i).toNat)
  case atStart => exact ⟨0, by omega, by omega, rfl, H.out, by simp, by simp [go_sem], by simp [go_sem], (by repeat (first | exact Below.refl _ _ | refine Below.drew ?_ | refine Below.alloc ?_ (by first | omega | (simp; done) | (simp; omega)) _ | refine Below.setCell ?_ (by first | omega | (simp; done) | (simp; omega)) _ | refine Below.trans ?_ (Below.mono (by assumption) (by first | omega | (simp; done) | (simp; omega)))))⟩
  case round =>
    obtain ⟨k, hkx, hky, rfl, H, hsz, q1, q2, hbl⟩ := hrel
    by_cases hlt : k < x.s.length ∧ k < y.s.length
    · obtain ⟨hlx, hly⟩ := hlt
      have hH := H.out
      rw [cmpS_step _ _ k hlx hly] at hH
      have i0 : (0 : Int) ≤ (k : Int) := by omega
      have i1 : (k : Int) < (x.s.length : Int) := by omega
      have i2 : (k : Int) < (y.s.length : Int) := by omega
      have s1 : x.s[k]? = some x.s[k] := by simp [hlx]
      have s2 : y.s[k]? = some y.s[k] := by simp [hly]
      have hs1 : w.heap.size < wr.heap.size := by omega
      by_cases hx : cmpI x.s[k].toNat y.s[k].toNat = 0
      · have he : x.s[k] = y.s[k] := UInt8.toNat_inj.1 (by have := cmpI_zero.1 hx; omega)
        rw [if_neg (fun h => h hx)] at hH
        have HN := Lib.hid hH
        have bx : ((x.s[k].toNat : Int) != (y.s[k].toNat : Int)) = false := by rw [he]; simp
        clear hH H hx he
        go_wp2_with (fail)
        refine wp_region_grow (by kernel_rfl) (by kernel_rfl) ?_
        repeat (quiet_step ((first | fail)))
        refine wpQuiet_nil ?_
        intro w2 hb2
        have hz2 := hb2.size
        go_wp2_with (fail)
        go_roundw
        case rel => exact ⟨k + 1, by omega, by omega, by go_num, HN.out, by omega, by rw [hb2.cell (p := ⟨w.heap.size, 2, none⟩) hs1]; exact q1, by rw [hb2.cell (p := ⟨w.heap.size + 1, 2, none⟩) hsz]; exact q2, (by repeat (first | exact Below.refl _ _ | refine Below.drew ?_ | refine Below.alloc ?_ (by first | omega | (simp; done) | (simp; omega)) _ | refine Below.setCell ?_ (by first | omega | (simp; done) | (simp; omega)) _ | refine Below.trans ?_ (Below.mono (by assumption) (by first | omega | (simp; done) | (simp; omega)))))⟩
        case measure => simp [intOf]; omega
      · rw [if_pos hx] at hH
        have HN := Lib.hid hH
        have bx : ((x.s[k].toNat : Int) != (y.s[k].toNat : Int)) = true := by
          have := mt cmpI_zero.2 hx
          simpa using this
        clear hH H hx
        go_wp2_with (fail)
        refine wp_region_grow (by kernel_rfl) (by kernel_rfl) ?_
        repeat (quiet_step ((first | fail)))
        refine wpQuiet_nil ?_
        intro w2 hb2
        have hz2 := hb2.size
        have r1 : w2.cell? ⟨w.heap.size, 2, none⟩ = some (.string (str x.s)) := by rw [hb2.cell (p := ⟨w.heap.size, 2, none⟩) hs1]; exact q1
        have r2 : w2.cell? ⟨w.heap.size + 1, 2, none⟩ = some (.string (str y.s)) := by rw [hb2.cell (p := ⟨w.heap.size + 1, 2, none⟩) hsz]; exact q2
        have hs2 : w.heap.size < w2.heap.size := by omega
        have hs3 : w.heap.size + 1 < w2.heap.size := by omega
        go_wp2_with (fail)
        refine wp_region_grow (by kernel_rfl) (by kernel_rfl) ?_
        repeat (quiet_step ((first | (go_at_call 133; exact quiet_grow (c_ref04_ahead _ _ _)))))
        refine wpQuiet_nil ?_
        intro w3 hb3
        have t1 : IntKind.i64.wrap (x.s[k].toNat : Int) = x.s[k].toNat := by rw [IntKind.wrap_i64]; have := x.s[k].toNat_lt; omega
        have t2 : IntKind.i64.wrap (y.s[k].toNat : Int) = y.s[k].toNat := by rw [IntKind.wrap_i64]; have := y.s[k].toNat_lt; omega
        go_wp2_with (fail)
        go_ret
        exact RetV.int (by first | exact HN.out | (rw [t1, t2]; exact HN.out)) (by repeat (first | exact Below.refl _ _ | refine Below.drew ?_ | refine Below.alloc ?_ (by first | omega | (simp; done) | (simp; omega)) _ | refine Below.setCell ?_ (by first | omega | (simp; done) | (simp; omega)) _ | refine Below.trans ?_ (Below.mono (by assumption) (by first | omega | (simp; done) | (simp; omega)))))
    · have hH := H.out
      rw [cmpS_end _ _ k hkx hky hlt] at hH
      have HN := Lib.hid hH
      clear hH H
      have hs1 : w.heap.size < wr.heap.size := by omega
      by_cases hlx : k < x.s.length
      · have hly : ¬ k < y.s.length := fun h => hlt ⟨hlx, h⟩
        clear hlt
        go_wp2_with (fail)
        refine (c_ref04_ahead _ _ _).mono ?_
        rintro e w3 ⟨rfl, hb3⟩
        go_wp2_with (fail)
        go_ret
        exact RetV.int HN.out (by repeat (first | exact Below.refl _ _ | refine Below.drew ?_ | refine Below.alloc ?_ (by first | omega | (simp; done) | (simp; omega)) _ | refine Below.setCell ?_ (by first | omega | (simp; done) | (simp; omega)) _ | refine Below.trans ?_ (Below.mono (by assumption) (by first | omega | (simp; done) | (simp; omega)))))
      · clear hlt
        go_wp2_with (fail)
        refine (c_ref04_ahead _ _ _).mono ?_
        rintro e w3 ⟨rfl, hb3⟩
        go_wp2_with (fail)
        go_ret
        exact RetV.int HN.out (by repeat (first | exact Below.refl _ _ | refine Below.drew ?_ | refine Below.alloc ?_ (by first | omega | (simp; done) | (simp; omega)) _ | refine Below.setCell ?_ (by first | omega | (simp; done) | (simp; omega)) _ | refine Below.trans ?_ (Below.mono (by assumption) (by first | omega | (simp; done) | (simp; omega)))))
set_option maxHeartbeats 1000000 in
theorem c_ref10_order (x y : Node) (w : World) (hsx : x.v.s.length ≤ 4294967296) (hsy : y.v.s.length ≤ 4294967296) : Calls Try.prog 79 #[x.val, y.val] w (RetV w (.int .i64 (x.cmp y))) := by
  unfold Node.val
  by_cases h1 : x.op = y.op
  case neg =>
    have b1 : (x.op != y.op) = true := by simpa using h1
    have H : Hid (cmpI x.op y.op = x.cmp y) := by show _ = _; unfold Node.cmp; rw [if_pos (mt cmpI_zero.1 h1)]
    rcases Int.lt_or_gt_of_ne h1 with h | h
    · have HN : Hid ((-1 : Int) = x.cmp y) := by show _ = _; rw [← H.out, cmpI_lt h]
      clear h1 H
      go_enter Try.func79, Try.ntmps79
      go_wp2_with (fail)
      go_ret
      exact RetV.int HN.out (by repeat (first | exact Below.refl _ _ | refine Below.drew ?_ | refine Below.alloc ?_ (by first | omega | (simp; done) | (simp; omega)) _ | refine Below.setCell ?_ (by first | omega | (simp; done) | (simp; omega)) _ | refine Below.trans ?_ (Below.mono (by assumption) (by first | omega | (simp; done) | (simp; omega)))))
    · have HN : Hid ((1 : Int) = x.cmp y) := by show _ = _; rw [← H.out, cmpI_gt h]
      have h' : ¬ x.op < y.op := by omega
      clear h1 H
      go_enter Try.func79, Try.ntmps79
      go_wp2_with (fail)
      go_ret
      exact RetV.int HN.out (by repeat (first | exact Below.refl _ _ | refine Below.drew ?_ | refine Below.alloc ?_ (by first | omega | (simp; done) | (simp; omega)) _ | refine Below.setCell ?_ (by first | omega | (simp; done) | (simp; omega)) _ | refine Below.trans ?_ (Below.mono (by assumption) (by first | omega | (simp; done) | (simp; omega)))))
  have b1 : (x.op != y.op) = false := by simpa using h1
  by_cases h2 : x.n = y.n
  case neg =>
    have b2 : (x.n != y.n) = true := by simpa using h2
    have H : Hid (cmpI x.n y.n = x.cmp y) := by show _ = _; unfold Node.cmp; rw [if_neg (by simp [cmpI_eq h1]), if_pos (mt cmpI_zero.1 h2)]
    rcases Int.lt_or_gt_of_ne h2 with h | h
    · have HN : Hid ((-1 : Int) = x.cmp y) := by show _ = _; rw [← H.out, cmpI_lt h]
      clear h1 h2 H
      go_enter Try.func79, Try.ntmps79
      go_wp2_with (fail)
      go_ret
      exact RetV.int HN.out (by repeat (first | exact Below.refl _ _ | refine Below.drew ?_ | refine Below.alloc ?_ (by first | omega | (simp; done) | (simp; omega)) _ | refine Below.setCell ?_ (by first | omega | (simp; done) | (simp; omega)) _ | refine Below.trans ?_ (Below.mono (by assumption) (by first | omega | (simp; done) | (simp; omega)))))
    · have HN : Hid ((1 : Int) = x.cmp y) := by show _ = _; rw [← H.out, cmpI_gt h]
      have h' : ¬ x.n < y.n := by omega
      clear h1 h2 H
      go_enter Try.func79, Try.ntmps79
      go_wp2_with (fail)
      go_ret
      exact RetV.int HN.out (by repeat (first | exact Below.refl _ _ | refine Below.drew ?_ | refine Below.alloc ?_ (by first | omega | (simp; done) | (simp; omega)) _ | refine Below.setCell ?_ (by first | omega | (simp; done) | (simp; omega)) _ | refine Below.trans ?_ (Below.mono (by assumption) (by first | omega | (simp; done) | (simp; omega)))))
  have b2 : (x.n != y.n) = false := by simpa using h2
  have H : Hid (x.v.cmp y.v = x.cmp y) := by show _ = _; unfold Node.cmp; rw [if_neg (by simp [cmpI_eq h1]), if_neg (by simp [cmpI_eq h2])]
  clear h1 h2
  go_enter Try.func79, Try.ntmps79
  go_wp2_with (fail)
  refine (c_ref04_Compare x.v y.v _ hsx hsy).mono ?_
  rintro e w3 ⟨rfl, hb3⟩
  go_wp2_with (fail)
  go_ret
  exact RetV.int H.out (by repeat (first | exact Below.refl _ _ | refine Below.drew ?_ | refine Below.alloc ?_ (by first | omega | (simp; done) | (simp; omega)) _ | refine Below.setCell ?_ (by first | omega | (simp; done) | (simp; omega)) _ | refine Below.trans ?_ (Below.mono (by assumption) (by first | omega | (simp; done) | (simp; omega)))))
set_option maxHeartbeats 1000000 in
theorem c_ref10_Compare (l1 l2 : List Node) (A1 A2 : Option Addr) (c1 c2 : Nat) (w : World) (h1 : InN w A1 c1 l1) (h2 : InN w A2 c2 l2) (k1 : ∀ x ∈ l1, x.v.s.length ≤ 4294967296) (k2 : ∀ x ∈ l2, x.v.s.length ≤ 4294967296) :
    Calls Try.prog 40 #[.slice A1 l1.length c1, .slice A2 l2.length c2] w (RetV w (.int .i64 (cmpL l1 l2))) := by
  have hL1 := h1.1
  have hC1 := h1.2.1
  have hS1 := h1.2.2.1
  have hL2 := h2.1
  have hC2 := h2.2.1
  have hS2 := h2.2.2.1
  have K1 := Lib.hid k1
  have K2 := Lib.hid k2
  have H0 : Hid (cmpL (l1.drop 0) (l2.drop 0) = cmpL l1 l2) := by show _ = _; rw [List.drop_zero, List.drop_zero]
  clear k1 k2
  go_enter Try.func40, Try.ntmps40
  go_wp2_with (fail)
  go_loopw [5, 6] (fun i c wr => ∃ k : Nat, k ≤ l1.length ∧ k ≤ l2.length ∧ i = .int .i64 k ∧ Hid (cmpL (l1.drop k) (l2.drop k) = cmpL l1 l2) ∧ Below w.heap.size w wr) (fun i _ _ => l1.length - (intOf i).toNat)
  case atStart => exact ⟨0, by omega, by omega, rfl, H0, Below.refl _ _⟩
  case round =>
    obtain ⟨k, hk1, hk2, rfl, H, hbl⟩ := hrel
    have hbz := hbl.size
    by_cases hlt : k < l1.length ∧ k < l2.length
    · obtain ⟨hlt1, hlt2⟩ := hlt
      obtain ⟨b1, off1, rfl, hb1, hrow1⟩ := h1.at hlt1
      obtain ⟨b2, off2, rfl, hb2, hrow2⟩ := h2.at hlt2
      obtain ⟨e0, e1, e2, e3, e4⟩ := (hrow1.below hbl hb1).node hlt1 rfl
      obtain ⟨f0, f1, f2, f3, f4⟩ := (hrow2.below hbl hb2).node hlt2 rfl
      have hs1 := K1.out l1[k] (List.getElem_mem hlt1)
      have hs2 := K2.out l2[k] (List.getElem_mem hlt2)
      have hbr1 : b1 < wr.heap.size := by omega
      have hbr2 : b2 < wr.heap.size := by omega
      have hi1 : (0 : Int) ≤ (k : Int) := by omega
      have hi2 : (k : Int) < (l1.length : Int) := by omega
      have hi3 : (k : Int) < (l2.length : Int) := by omega
      have hH := H.out
      rw [cmpL_at _ _ k hlt1 hlt2] at hH
      clear h1 h2 H
      by_cases hx : l1[k].cmp l2[k] = 0
      · rw [if_neg (fun h => h hx)] at hH
        have HN := Lib.hid hH
        have bx : (l1[k].cmp l2[k] != 0) = false := by simpa using hx
        clear hH hx
        go_wp2_with (fail)
        refine wp_region_grow (by kernel_rfl) (by kernel_rfl) ?_
        repeat (quiet_step ((first | (go_at_call 79; exact quiet_grow (c_ref10_order l1[k] l2[k] _ hs1 hs2)))))
        refine wpQuiet_nil ?_
        intro w2 hb2
        go_wp2_with (fail)
        go_roundw
        case rel => exact ⟨k + 1, by omega, by omega, by go_num, HN.out, (by repeat (first | exact Below.refl _ _ | refine Below.drew ?_ | refine Below.alloc ?_ (by first | omega | (simp; done) | (simp; omega)) _ | refine Below.setCell ?_ (by first | omega | (simp; done) | (simp; omega)) _ | refine Below.trans ?_ (Below.mono (by assumption) (by first | omega | (simp; done) | (simp; omega)))))⟩
        case measure => simp [intOf]; omega
      · rw [if_pos hx] at hH
        have HN := Lib.hid hH
        have bx : (l1[k].cmp l2[k] != 0) = true := by simpa using hx
        clear hH hx
        go_wp2_with (fail)
        refine wp_region_grow (by kernel_rfl) (by kernel_rfl) ?_
        repeat (quiet_step ((first | (go_at_call 79; exact quiet_grow (c_ref10_order l1[k] l2[k] _ hs1 hs2)))))
        refine wpQuiet_nil ?_
        intro w2 hb2
        go_wp2_with (fail)
        go_ret
        exact RetV.int HN.out (by repeat (first | exact Below.refl _ _ | refine Below.drew ?_ | refine Below.alloc ?_ (by first | omega | (simp; done) | (simp; omega)) _ | refine Below.setCell ?_ (by first | omega | (simp; done) | (simp; omega)) _ | refine Below.trans ?_ (Below.mono (by assumption) (by first | omega | (simp; done) | (simp; omega)))))
    · have hH := H.out
      clear H H0
      by_cases hlt1 : k < l1.length
      · have hlt2 : l2.length ≤ k := by omega
        rw [cmpL_right _ _ k hlt1 hlt2] at hH
        have HN := Lib.hid hH
        have g1 : ¬ l1.length < l2.length := by omega
        have g2 : l2.length < l1.length := by omega
        have g3 : ¬ k < l2.length := by omega
        clear hlt hH
        go_wp2_with (fail)
        go_ret
        exact RetV.int HN.out hbl
      · by_cases hlt2 : k < l2.length
        · rw [cmpL_left _ _ k (by omega) hlt2] at hH
          have HN := Lib.hid hH
          have g1 : l1.length < l2.length := by omega
          clear hlt hH
          go_wp2_with (fail)
          go_ret
          exact RetV.int HN.out hbl
        · rw [List.drop_of_length_le (by omega), List.drop_of_length_le (by omega)] at hH
          have HN := Lib.hid hH
          have g1 : ¬ l1.length < l2.length := by omega
          have g2 : ¬ l2.length < l1.length := by omega
          clear hlt hH
          go_wp2_with (fail)
          go_ret
          exact RetV.int HN.out hbl
end Go.Proofs.Ytoekhnppcakdnaa
