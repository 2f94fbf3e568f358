/-
  The walks of the functions that tell which of two values, nodes, lists stands ahead: package cmp's, the program's and the reference's, each against one plain order.
-/
import Derived.Test.YtplipddgeanajaaW10i
import Derived.Test.YtplipddgeanajaaCmp
import Derived.Test.YtplipddgeanajaaTail
namespace Go.Proofs.Ytplipddgeanajaa
open Go.RowKit

set_option maxHeartbeats 400000 in
theorem c_isNaN_int (x : Int) (w : World) : Calls Try.prog 108 #[.int .i64 x] w (RetV w (.bool false)) := by
  go_enter Try.func108, Try.ntmps108
  go_wp2_with (fail)
  go_ret
  exact RetV.bool (by simp) (by repeat (first | exact Below.refl _ _ | refine Below.drew ?_ | refine Below.alloc ?_ (by first | omega | (simp; done) | (simp; omega)) _ | refine Below.setCell ?_ (by first | omega | (simp; done) | (simp; omega)) _ | refine Below.trans ?_ (Below.mono (by assumption) (by first | omega | (simp; done) | (simp; omega)))))
set_option maxHeartbeats 400000 in
theorem c_isNaN_string (s : List UInt8) (w : World) : Calls Try.prog 118 #[.string (str s)] w (RetV w (.bool false)) := by
  go_enter Try.func118, Try.ntmps118
  go_wp2_with (fail)
  go_ret
  exact RetV.bool (by simp) (by repeat (first | exact Below.refl _ _ | refine Below.drew ?_ | refine Below.alloc ?_ (by first | omega | (simp; done) | (simp; omega)) _ | refine Below.setCell ?_ (by first | omega | (simp; done) | (simp; omega)) _ | refine Below.trans ?_ (Below.mono (by assumption) (by first | omega | (simp; done) | (simp; omega)))))
set_option maxHeartbeats 400000 in
theorem c_cmp_int (a b : Int) (w : World) : Calls Try.prog 79 #[.int .i64 a, .int .i64 b] w (RetV w (.int .i64 (cmpI a b))) := by
  have hc : (a < b ∧ Hid (cmpI a b = -1)) ∨ (a = b ∧ Hid (cmpI a b = 0)) ∨ (b < a ∧ Hid (cmpI a b = 1)) := by
    rcases Int.lt_trichotomy a b with h | h | h
    · exact .inl ⟨h, cmpI_lt h⟩
    · exact .inr (.inl ⟨h, cmpI_eq h⟩)
    · exact .inr (.inr ⟨h, cmpI_gt h⟩)
  rcases hc with ⟨h, H⟩ | ⟨rfl, H⟩ | ⟨h, H⟩
  all_goals (
    go_enter Try.func79, Try.ntmps79
    go_wp2_with (fail)
    refine (c_isNaN_int _ _).mono ?_
    rintro e w1 ⟨rfl, hb1⟩
    have hz1 := hb1.size
    go_wp2_with (fail)
    refine (c_isNaN_int _ _).mono ?_
    rintro e w2 ⟨rfl, hb2⟩
    go_wp2_with (fail)
    all_goals first
      | (exfalso; omega)
      | (go_ret; exact RetV.int H.out.symm (by repeat (first | exact Below.refl _ _ | refine Below.drew ?_ | refine Below.alloc ?_ (by first | omega | (simp; done) | (simp; omega)) _ | refine Below.setCell ?_ (by first | omega | (simp; done) | (simp; omega)) _ | refine Below.trans ?_ (Below.mono (by assumption) (by first | omega | (simp; done) | (simp; omega)))))))
set_option maxHeartbeats 400000 in
theorem c_cmp_string (a b : List UInt8) (w : World) : Calls Try.prog 109 #[.string (str a), .string (str b)] w (RetV w (.int .i64 (cmpS a b))) := by
  have hbd := cmpS_bd a b
  have hneg := cmpS_neg a b
  have l1 := bytesLess_cmp a b
  have l2 := beq_cmp a b
  have hc : (Op.bytesLess a b = true ∧ (a == b) = false ∧ Hid (cmpS a b = -1)) ∨ (Op.bytesLess a b = false ∧ (a == b) = true ∧ Hid (cmpS a b = 0)) ∨ (Op.bytesLess a b = false ∧ (a == b) = false ∧ Hid (cmpS a b = 1)) := by
    have : cmpS a b = -1 ∨ cmpS a b = 0 ∨ cmpS a b = 1 := by omega
    rcases this with h | h | h
    · exact .inl ⟨by rw [l1, h]; rfl, by rw [l2, h]; rfl, h⟩
    · exact .inr (.inl ⟨by rw [l1, h]; rfl, by rw [l2, h]; rfl, h⟩)
    · exact .inr (.inr ⟨by rw [l1, h]; rfl, by rw [l2, h]; rfl, h⟩)
  clear hbd hneg l1 l2
  rcases hc with ⟨h1, h2, H⟩ | ⟨h1, h2, H⟩ | ⟨h1, h2, H⟩
  all_goals (
    go_enter Try.func109, Try.ntmps109
    go_wp2_with (fail)
    refine (c_isNaN_string _ _).mono ?_
    rintro e w1 ⟨rfl, hb1⟩
    have hz1 := hb1.size
    go_wp2_with (fail)
    refine (c_isNaN_string _ _).mono ?_
    rintro e w2 ⟨rfl, hb2⟩
    go_wp2_with (fail)
    go_ret
    exact RetV.int H.out.symm (by repeat (first | exact Below.refl _ _ | refine Below.drew ?_ | refine Below.alloc ?_ (by first | omega | (simp; done) | (simp; omega)) _ | refine Below.setCell ?_ (by first | omega | (simp; done) | (simp; omega)) _ | refine Below.trans ?_ (Below.mono (by assumption) (by first | omega | (simp; done) | (simp; omega))))))
set_option maxHeartbeats 1000000 in
theorem c_value_Compare (x y : Val) (w : World) : Calls Try.prog 80 #[x.val, y.val] w (RetV w (.int .i64 (x.cmp y))) := by
  unfold Val.val
  by_cases h1 : cmpI x.kind y.kind = 0
  · have b1 : (cmpI x.kind y.kind != 0) = false := by simpa using h1
    by_cases h2 : cmpI x.n y.n = 0
    · have b2 : (cmpI x.n y.n != 0) = false := by simpa using h2
      have H : Hid (cmpS x.s y.s = x.cmp y) := by show _ = _; unfold Val.cmp; rw [if_neg (by simpa using h1), if_neg (by simpa using h2)]
      clear h1 h2
      go_enter Try.func80, Try.ntmps80
      go_wp2_with (fail)
      refine (c_cmp_int _ _ _).mono ?_
      rintro e w1 ⟨rfl, hb1⟩
      have hz1 := hb1.size
      simp only [World.size_alloc] at hz1
      have q1 := fun o => hb1.cell (p := ⟨w.heap.size, o, none⟩) (by simp; omega)
      have r1 := fun o => hb1.cell (p := ⟨w.heap.size + 1, o, none⟩) (by simp)
      go_wp2_with (fail)
      refine (c_cmp_int _ _ _).mono ?_
      rintro e w2 ⟨rfl, hb2⟩
      have hz2 := hb2.size
      have q2 := fun o => hb2.cell (p := ⟨w.heap.size, o, none⟩) (by show w.heap.size < _; omega)
      have r2 := fun o => hb2.cell (p := ⟨w.heap.size + 1, o, none⟩) (by show w.heap.size + 1 < _; omega)
      go_wp2_with (fail)
      refine (c_cmp_string _ _ _).mono ?_
      rintro e w3 ⟨rfl, hb3⟩
      go_wp2_with (fail)
      go_ret
      exact RetV.int H.out (by repeat (first | exact Below.refl _ _ | refine Below.drew ?_ | refine Below.alloc ?_ (by first | omega | (simp; done) | (simp; omega)) _ | refine Below.setCell ?_ (by first | omega | (simp; done) | (simp; omega)) _ | refine Below.trans ?_ (Below.mono (by assumption) (by first | omega | (simp; done) | (simp; omega)))))
    · have b2 : (cmpI x.n y.n != 0) = true := by simpa using h2
      have H : Hid (cmpI x.n y.n = x.cmp y) := by show _ = _; unfold Val.cmp; rw [if_neg (by simpa using h1), if_pos h2]
      clear h1 h2
      go_enter Try.func80, Try.ntmps80
      go_wp2_with (fail)
      refine (c_cmp_int _ _ _).mono ?_
      rintro e w1 ⟨rfl, hb1⟩
      have hz1 := hb1.size
      simp only [World.size_alloc] at hz1
      have q1 := fun o => hb1.cell (p := ⟨w.heap.size, o, none⟩) (by simp; omega)
      have r1 := fun o => hb1.cell (p := ⟨w.heap.size + 1, o, none⟩) (by simp)
      go_wp2_with (fail)
      refine (c_cmp_int _ _ _).mono ?_
      rintro e w2 ⟨rfl, hb2⟩
      go_wp2_with (fail)
      go_ret
      exact RetV.int H.out (by repeat (first | exact Below.refl _ _ | refine Below.drew ?_ | refine Below.alloc ?_ (by first | omega | (simp; done) | (simp; omega)) _ | refine Below.setCell ?_ (by first | omega | (simp; done) | (simp; omega)) _ | refine Below.trans ?_ (Below.mono (by assumption) (by first | omega | (simp; done) | (simp; omega)))))
  · have b1 : (cmpI x.kind y.kind != 0) = true := by simpa using h1
    have H : Hid (cmpI x.kind y.kind = x.cmp y) := by show _ = _; unfold Val.cmp; rw [if_pos h1]
    clear h1
    go_enter Try.func80, Try.ntmps80
    go_wp2_with (fail)
    refine (c_cmp_int _ _ _).mono ?_
    rintro e w1 ⟨rfl, hb1⟩
    go_wp2_with (fail)
    go_ret
    exact RetV.int H.out (by repeat (first | exact Below.refl _ _ | refine Below.drew ?_ | refine Below.alloc ?_ (by first | omega | (simp; done) | (simp; omega)) _ | refine Below.setCell ?_ (by first | omega | (simp; done) | (simp; omega)) _ | refine Below.trans ?_ (Below.mono (by assumption) (by first | omega | (simp; done) | (simp; omega)))))
end Go.Proofs.Ytplipddgeanajaa
