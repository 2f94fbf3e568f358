/-
  The walks of the program's Compare of two filters, and of the reference's Join.
-/
import Derived.Test.YtiedkcijjfmhaaaDoorSy10
namespace Go.Proofs.YtiedkcijjfmhaaaDoor
open Go.RowKit

def icn (x : Int) : List Value := [.int .i64 x]
theorem icn_len (x : Int) : (icn x).length = 1 := rfl
def orL : List Int → Int
  | [] => 0
  | x :: r => if x ≠ 0 then x else orL r
theorem orL_at (l : List Int) (k : Nat) (h : k < l.length) : orL (l.drop k) = if l[k] ≠ 0 then l[k] else orL (l.drop (k + 1)) := by
  rw [List.drop_eq_getElem_cons h]; rfl
theorem Row.int1 {w : World} {b off : Nat} {l : List Int} (h : Row 1 icn w b off l) {i : Nat} (hi : i < l.length) : w.cell? ⟨b, off + i, none⟩ = some (.int .i64 l[i]) := by
  have := h i hi 0 _ rfl
  simpa using this
set_option maxHeartbeats 400000 in
theorem c_cmp_Or (l : List Int) (A : Option Addr) (c : Nat) (w : World) (h : In 1 icn w A c l) : Calls Tryd.prog 69 #[.slice A l.length c] w (RetV w (.int .i64 (orL l))) := by
  have hL := h.1
  have hC := h.2.1
  have hS := h.2.2.1
  have H0 : Hid (orL (l.drop 0) = orL l) := rfl
  go_enter Tryd.func69, Tryd.ntmps69
  go_wp2_with (fail)
  go_loopw [5, 8] (fun v i wr => ∃ k : Nat, k ≤ l.length ∧ i = .int .i64 k ∧ Hid (orL (l.drop k) = orL l) ∧ Below w.heap.size w wr) (fun _ i _ => l.length - (intOf i).toNat)
  case atStart => exact ⟨0, by omega, rfl, H0, Below.refl _ _⟩
  case round =>
    obtain ⟨k, hk, rfl, H, hbl⟩ := hrel
    have hbz := hbl.size
    by_cases hlt : k < l.length
    · obtain ⟨b, off, rfl, hb, hrow⟩ := h.at hlt
      have e0 := (hrow.below hbl hb).int1 hlt
      have hH := H.out
      rw [orL_at l k hlt] at hH
      clear h H H0
      by_cases hx : l[k] = 0
      · rw [if_neg (fun h => h hx)] at hH
        have HN := lh hH
        have bx : (l[k] != 0) = false := by simpa using hx
        clear hH hx
        go_wp2_with (fail)
        go_roundw
        case rel => exact ⟨k + 1, by omega, by go_num, HN.out, hbl⟩
        case measure => simp [intOf]; omega
      · rw [if_pos hx] at hH
        have HN := lh hH
        have bx : (l[k] != 0) = true := by simpa using hx
        clear hH hx
        go_wp2_with (fail)
        go_ret
        exact RetV.int HN.out hbl
    · have hH := H.out
      rw [List.drop_of_length_le (by omega)] at hH
      have HN := lh hH
      clear hH H H0
      go_wp2_with (fail)
      go_ret
      exact RetV.int HN.out hbl
theorem Node.cmp_or (x y : Node) : orL [cmpI x.op y.op, cmpI x.n y.n, x.v.cmp y.v] = x.cmp y := by
  unfold Node.cmp orL orL orL orL
  by_cases h1 : cmpI x.op y.op = 0 <;> by_cases h2 : cmpI x.n y.n = 0 <;> by_cases h3 : x.v.cmp y.v = 0 <;> simp [h1, h2, h3]
set_option maxHeartbeats 1000000 in
theorem c_pred_Compare1 (x y : Node) (w : World) : Calls Tryd.prog 68 #[x.val, y.val] w (RetV w (.int .i64 (x.cmp y))) := by
  unfold Node.val
  have H := lh (Node.cmp_or x y)
  go_enter Tryd.func68, Tryd.ntmps68
  go_wp2_with (fail)
  have hs1 : w.heap.size < w.heap.size + 1 + 1 := by omega
  have hs2 : w.heap.size + 1 < w.heap.size + 1 + 1 := by omega
  refine wp_region_tail 15 (by kernel_rfl) (by kernel_rfl) ?_
  simp only [List.take_succ_cons, List.take_zero, List.drop_succ_cons, List.drop_zero]
  repeat (quiet_step ((first | (go_at_call 70; exact quiet_grow (c_cmp_int _ _ _)) | (go_at_call 71; exact quiet_grow (c_value_Compare x.v y.v _)))))
  refine wpQuiet_nil ?_
  intro w2 hb2
  have hz2 := hb2.size
  simp only [World.size_alloc] at hz2
  go_wp2_with (fail)
  refine (c_cmp_Or [cmpI x.op y.op, cmpI x.n y.n, x.v.cmp y.v] _ 3 _ (In.lit icn_len w2 [cmpI x.op y.op, cmpI x.n y.n, x.v.cmp y.v] 3 3 rfl (by simp))).mono ?_
  rintro e w3 ⟨rfl, hb3⟩
  go_wp2_with (fail)
  go_ret
  exact RetV.int H.out (by repeat (first | exact Below.refl _ _ | refine Below.drew ?_ | refine Below.alloc ?_ (by first | omega | (simp; done) | (simp; omega)) _ | refine Below.setCell ?_ (by first | omega | (simp; done) | (simp; omega)) _ | refine Below.trans ?_ (Below.mono (by assumption) (by first | omega | (simp; done) | (simp; omega)))))
set_option maxHeartbeats 1000000 in
theorem c_CompareFunc (l1 l2 : List Node) (A1 A2 : Option Addr) (c1 c2 : Nat) (w : World) (h1 : InN w A1 c1 l1) (h2 : InN w A2 c2 l2) :
    Calls Tryd.prog 67 #[.slice A1 l1.length c1, .slice A2 l2.length c2, .func (.func 68) #[] #[]] w (RetV w (.int .i64 (cmpL l1 l2))) := by
  have hL1 := h1.1
  have hC1 := h1.2.1
  have hS1 := h1.2.2.1
  have hL2 := h2.1
  have hC2 := h2.2.1
  have hS2 := h2.2.2.1
  have H0 : Hid (cmpL (l1.drop 0) (l2.drop 0) = cmpL l1 l2) := by show _ = _; rw [List.drop_zero, List.drop_zero]
  go_enter Tryd.func67, Tryd.ntmps67
  go_wp2_with (fail)
  go_loopw [13] (fun i wr => ∃ k : Nat, k ≤ l1.length ∧ k ≤ l2.length ∧ i = .int .i64 k ∧ Hid (cmpL (l1.drop k) (l2.drop k) = cmpL l1 l2) ∧ Below w.heap.size w wr) (fun i _ => l1.length - (intOf i).toNat)
  case atStart => exact ⟨0, by omega, by omega, rfl, H0, Below.refl _ _⟩
  case round =>
    obtain ⟨k, hk1, hk2, rfl, H, hbl⟩ := hrel
    have hbz := hbl.size
    have hH := H.out
    clear H H0
    by_cases hlt1 : k < l1.length
    · obtain ⟨b1, off1, rfl, hb1, hrow1⟩ := h1.at hlt1
      obtain ⟨e0, e1, e2, e3, e4⟩ := (hrow1.below hbl hb1).node hlt1 rfl
      by_cases hlt2 : k < l2.length
      · obtain ⟨b2, off2, rfl, hb2, hrow2⟩ := h2.at hlt2
        obtain ⟨f0, f1, f2, f3, f4⟩ := (hrow2.below hbl hb2).node hlt2 rfl
        have hbr1 : b1 < wr.heap.size := by omega
        have hbr2 : b2 < wr.heap.size := by omega
        rw [cmpL_at _ _ k hlt1 hlt2] at hH
        clear h1 h2
        by_cases hx : l1[k].cmp l2[k] = 0
        · rw [if_neg (fun h => h hx)] at hH
          have HN := lh hH
          have bx : (l1[k].cmp l2[k] != 0) = false := by simpa using hx
          clear hH hx
          go_wp2_with (go_at_call 68; refine (c_pred_Compare1 l1[k] l2[k] _).mono ?_; rintro e w3 ⟨rfl, hb3⟩)
          go_roundw
          case rel => exact ⟨k + 1, by omega, by omega, by go_num, HN.out, (by repeat (first | exact Below.refl _ _ | refine Below.drew ?_ | refine Below.alloc ?_ (by first | omega | (simp; done) | (simp; omega)) _ | refine Below.setCell ?_ (by first | omega | (simp; done) | (simp; omega)) _ | refine Below.trans ?_ (Below.mono (by assumption) (by first | omega | (simp; done) | (simp; omega)))))⟩
          case measure => simp [intOf]; omega
        · rw [if_pos hx] at hH
          have HN := lh hH
          have bx : (l1[k].cmp l2[k] != 0) = true := by simpa using hx
          clear hH hx
          go_wp2_with (go_at_call 68; refine (c_pred_Compare1 l1[k] l2[k] _).mono ?_; rintro e w3 ⟨rfl, hb3⟩)
          go_ret
          exact RetV.int HN.out (by repeat (first | exact Below.refl _ _ | refine Below.drew ?_ | refine Below.alloc ?_ (by first | omega | (simp; done) | (simp; omega)) _ | refine Below.setCell ?_ (by first | omega | (simp; done) | (simp; omega)) _ | refine Below.trans ?_ (Below.mono (by assumption) (by first | omega | (simp; done) | (simp; omega)))))
      · rw [cmpL_right _ _ k hlt1 (by omega)] at hH
        have HN := lh hH
        clear hH h1 h2
        go_wp2_with (fail)
        go_ret
        exact RetV.int HN.out (by repeat (first | exact Below.refl _ _ | refine Below.drew ?_ | refine Below.alloc ?_ (by first | omega | (simp; done) | (simp; omega)) _ | refine Below.setCell ?_ (by first | omega | (simp; done) | (simp; omega)) _ | refine Below.trans ?_ (Below.mono (by assumption) (by first | omega | (simp; done) | (simp; omega)))))
    · by_cases hlt2 : k < l2.length
      · rw [cmpL_left _ _ k (by omega) hlt2] at hH
        have HN := lh hH
        have g1 : l1.length < l2.length := by omega
        clear hH
        go_wp2_with (fail)
        go_ret
        exact RetV.int HN.out hbl
      · rw [List.drop_of_length_le (by omega), List.drop_of_length_le (by omega)] at hH
        have HN := lh hH
        have g1 : ¬ l1.length < l2.length := by omega
        clear hH
        go_wp2_with (fail)
        go_ret
        exact RetV.int HN.out hbl
set_option maxHeartbeats 400000 in
theorem c_pred_Compare (l1 l2 : List Node) (A1 A2 : Option Addr) (c1 c2 : Nat) (w : World) (h1 : InN w A1 c1 l1) (h2 : InN w A2 c2 l2) :
    Calls Tryd.prog 34 #[.slice A1 l1.length c1, .slice A2 l2.length c2] w (RetV w (.int .i64 (cmpL l1 l2))) := by
  have hL1 := h1.1
  have hC1 := h1.2.1
  have hL2 := h2.1
  have hC2 := h2.2.1
  have H1 := lh h1
  have H2 := lh h2
  clear h1 h2
  go_enter Tryd.func34, Tryd.ntmps34
  go_wp2_with (fail)
  refine (c_CompareFunc l1 l2 _ _ _ _ _ H1.out H2.out).mono ?_
  rintro e w3 ⟨rfl, hb3⟩
  go_wp2_with (fail)
  go_ret
  exact RetV.int rfl hb3
end Go.Proofs.YtiedkcijjfmhaaaDoor
