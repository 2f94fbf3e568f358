/-
  Lemmas (walks and plain laws), in one text.
-/
import Derived.Test.YtjhndilflcigiaaPc8
import Derived.Test.YtjhndilflcigiaaRows
import Derived.WalkKit
import Derived.WalkSpells
import Derived.WalkLawsBesides
import Derived.Lib.Hide
import Derived.Deep.QuietTactic
import Derived.BigQuiet
import Derived.Maps.AppendAt
import Derived.WalkSmall
import Derived.ProofKit
import Derived.OpenShut
import Derived.JoinedCond
import Derived.Deep.Slices
import Derived.Deep.Fields
import Derived.Carry
import Derived.Test.YtjhndilflcigiaaProg
import Derived.Deep.CutBlock
import Derived.Deep.DeepCutAuto
import Derived.Deep.AppendSrc
import Derived.Lib.AppendStr
import Derived.Laws.BytesArg
import Derived.Laws.CopyOwn
import Derived.Outline
import Derived.IntWalk
import Derived.Lib.EndianBits
import Derived.Laws.Tables
import Derived.Laws.Rows
import Derived.Shelf.Spec.TrailingZeros
import Derived.StillTail
import Derived.Lib.AppendZeros
import Derived.Deep.Quiet
import Derived.ChangeKeysEq
import Derived.Laws.StructEq
import Derived.Laws.LoneSync
namespace Go.Proofs.Ytjhndilflcigiaa
open Go.RowKit

set_option maxHeartbeats 400000 in
theorem c_isNaN_int (x : Int) (w : World) : Calls Try.prog 138 #[.int .i64 x] w (RetV w (.bool false)) := by
  go_enter Try.func138, Try.ntmps138
  go_wp2_with (fail)
  go_ret
  exact RetV.bool (by simp) (by repeat (first | exact Below.refl _ _ | refine Below.drew ?_ | refine Below.alloc ?_ (by first | omega | (simp; done) | (simp; omega)) _ | refine Below.setCell ?_ (by first | omega | (simp; done) | (simp; omega)) _ | refine Below.trans ?_ (Below.mono (by assumption) (by first | omega | (simp; done) | (simp; omega)))))
set_option maxHeartbeats 400000 in
theorem c_isNaN_string (s : List UInt8) (w : World) : Calls Try.prog 141 #[.string (str s)] w (RetV w (.bool false)) := by
  go_enter Try.func141, Try.ntmps141
  go_wp2_with (fail)
  go_ret
  exact RetV.bool (by simp) (by repeat (first | exact Below.refl _ _ | refine Below.drew ?_ | refine Below.alloc ?_ (by first | omega | (simp; done) | (simp; omega)) _ | refine Below.setCell ?_ (by first | omega | (simp; done) | (simp; omega)) _ | refine Below.trans ?_ (Below.mono (by assumption) (by first | omega | (simp; done) | (simp; omega)))))
set_option maxHeartbeats 400000 in
theorem c_cmp_int (a b : Int) (w : World) : Calls Try.prog 124 #[.int .i64 a, .int .i64 b] w (RetV w (.int .i64 (cmpI a b))) := by
  have hc : (a < b ∧ Hid (cmpI a b = -1)) ∨ (a = b ∧ Hid (cmpI a b = 0)) ∨ (b < a ∧ Hid (cmpI a b = 1)) := by
    rcases Int.lt_trichotomy a b with h | h | h
    · exact .inl ⟨h, cmpI_lt h⟩
    · exact .inr (.inl ⟨h, cmpI_eq h⟩)
    · exact .inr (.inr ⟨h, cmpI_gt h⟩)
  rcases hc with ⟨h, H⟩ | ⟨rfl, H⟩ | ⟨h, H⟩
  all_goals (
    go_enter Try.func124, Try.ntmps124
    go_wp2_with (fail)
    refine (c_isNaN_int _ _).mono ?_
    rintro e w1 ⟨rfl, hb1⟩
    have hz1 := hb1.size
    go_wp2_with (fail)
    refine (c_isNaN_int _ _).mono ?_
    rintro e w2 ⟨rfl, hb2⟩
    go_wp2_with (fail)
    all_goals first
      | (exfalso; omega)
      | (go_ret; exact RetV.int H.out.symm (by repeat (first | exact Below.refl _ _ | refine Below.drew ?_ | refine Below.alloc ?_ (by first | omega | (simp; done) | (simp; omega)) _ | refine Below.setCell ?_ (by first | omega | (simp; done) | (simp; omega)) _ | refine Below.trans ?_ (Below.mono (by assumption) (by first | omega | (simp; done) | (simp; omega)))))))
set_option maxHeartbeats 400000 in
theorem c_cmp_string (a b : List UInt8) (w : World) : Calls Try.prog 139 #[.string (str a), .string (str b)] w (RetV w (.int .i64 (cmpS a b))) := by
  have hbd := cmpS_bd a b
  have hneg := cmpS_neg a b
  have l1 := bytesLess_cmp a b
  have l2 := beq_cmp a b
  have hc : (Op.bytesLess a b = true ∧ (a == b) = false ∧ Hid (cmpS a b = -1)) ∨ (Op.bytesLess a b = false ∧ (a == b) = true ∧ Hid (cmpS a b = 0)) ∨ (Op.bytesLess a b = false ∧ (a == b) = false ∧ Hid (cmpS a b = 1)) := by
    have : cmpS a b = -1 ∨ cmpS a b = 0 ∨ cmpS a b = 1 := by omega
    rcases this with h | h | h
    · exact .inl ⟨by rw [l1, h]; rfl, by rw [l2, h]; rfl, h⟩
    · exact .inr (.inl ⟨by rw [l1, h]; rfl, by rw [l2, h]; rfl, h⟩)
    · exact .inr (.inr ⟨by rw [l1, h]; rfl, by rw [l2, h]; rfl, h⟩)
  clear hbd hneg l1 l2
  rcases hc with ⟨h1, h2, H⟩ | ⟨h1, h2, H⟩ | ⟨h1, h2, H⟩
  all_goals (
    go_enter Try.func139, Try.ntmps139
    go_wp2_with (fail)
    refine (c_isNaN_string _ _).mono ?_
    rintro e w1 ⟨rfl, hb1⟩
    have hz1 := hb1.size
    go_wp2_with (fail)
    refine (c_isNaN_string _ _).mono ?_
    rintro e w2 ⟨rfl, hb2⟩
    go_wp2_with (fail)
    go_ret
    exact RetV.int H.out.symm (by repeat (first | exact Below.refl _ _ | refine Below.drew ?_ | refine Below.alloc ?_ (by first | omega | (simp; done) | (simp; omega)) _ | refine Below.setCell ?_ (by first | omega | (simp; done) | (simp; omega)) _ | refine Below.trans ?_ (Below.mono (by assumption) (by first | omega | (simp; done) | (simp; omega))))))
set_option maxHeartbeats 1000000 in
theorem c_value_Compare (x y : Val) (w : World) : Calls Try.prog 125 #[x.val, y.val] w (RetV w (.int .i64 (x.cmp y))) := by
  unfold Val.val
  by_cases h1 : cmpI x.kind y.kind = 0
  · have b1 : (cmpI x.kind y.kind != 0) = false := by simpa using h1
    by_cases h2 : cmpI x.n y.n = 0
    · have b2 : (cmpI x.n y.n != 0) = false := by simpa using h2
      have H : Hid (cmpS x.s y.s = x.cmp y) := by show _ = _; unfold Val.cmp; rw [if_neg (by simpa using h1), if_neg (by simpa using h2)]
      clear h1 h2
      go_enter Try.func125, Try.ntmps125
      go_wp2_with (fail)
      refine (c_cmp_int _ _ _).mono ?_
      rintro e w1 ⟨rfl, hb1⟩
      have hz1 := hb1.size
      simp only [World.size_alloc] at hz1
      have q1 := fun o => hb1.cell (p := ⟨w.heap.size, o, none⟩) (by simp; omega)
      have r1 := fun o => hb1.cell (p := ⟨w.heap.size + 1, o, none⟩) (by simp)
      go_wp2_with (fail)
      refine (c_cmp_int _ _ _).mono ?_
      rintro e w2 ⟨rfl, hb2⟩
      have hz2 := hb2.size
      have q2 := fun o => hb2.cell (p := ⟨w.heap.size, o, none⟩) (by show w.heap.size < _; omega)
      have r2 := fun o => hb2.cell (p := ⟨w.heap.size + 1, o, none⟩) (by show w.heap.size + 1 < _; omega)
      go_wp2_with (fail)
      refine (c_cmp_string _ _ _).mono ?_
      rintro e w3 ⟨rfl, hb3⟩
      go_wp2_with (fail)
      go_ret
      exact RetV.int H.out (by repeat (first | exact Below.refl _ _ | refine Below.drew ?_ | refine Below.alloc ?_ (by first | omega | (simp; done) | (simp; omega)) _ | refine Below.setCell ?_ (by first | omega | (simp; done) | (simp; omega)) _ | refine Below.trans ?_ (Below.mono (by assumption) (by first | omega | (simp; done) | (simp; omega)))))
    · have b2 : (cmpI x.n y.n != 0) = true := by simpa using h2
      have H : Hid (cmpI x.n y.n = x.cmp y) := by show _ = _; unfold Val.cmp; rw [if_neg (by simpa using h1), if_pos h2]
      clear h1 h2
      go_enter Try.func125, Try.ntmps125
      go_wp2_with (fail)
      refine (c_cmp_int _ _ _).mono ?_
      rintro e w1 ⟨rfl, hb1⟩
      have hz1 := hb1.size
      simp only [World.size_alloc] at hz1
      have q1 := fun o => hb1.cell (p := ⟨w.heap.size, o, none⟩) (by simp; omega)
      have r1 := fun o => hb1.cell (p := ⟨w.heap.size + 1, o, none⟩) (by simp)
      go_wp2_with (fail)
      refine (c_cmp_int _ _ _).mono ?_
      rintro e w2 ⟨rfl, hb2⟩
      go_wp2_with (fail)
      go_ret
      exact RetV.int H.out (by repeat (first | exact Below.refl _ _ | refine Below.drew ?_ | refine Below.alloc ?_ (by first | omega | (simp; done) | (simp; omega)) _ | refine Below.setCell ?_ (by first | omega | (simp; done) | (simp; omega)) _ | refine Below.trans ?_ (Below.mono (by assumption) (by first | omega | (simp; done) | (simp; omega)))))
  · have b1 : (cmpI x.kind y.kind != 0) = true := by simpa using h1
    have H : Hid (cmpI x.kind y.kind = x.cmp y) := by show _ = _; unfold Val.cmp; rw [if_pos h1]
    clear h1
    go_enter Try.func125, Try.ntmps125
    go_wp2_with (fail)
    refine (c_cmp_int _ _ _).mono ?_
    rintro e w1 ⟨rfl, hb1⟩
    go_wp2_with (fail)
    go_ret
    exact RetV.int H.out (by repeat (first | exact Below.refl _ _ | refine Below.drew ?_ | refine Below.alloc ?_ (by first | omega | (simp; done) | (simp; omega)) _ | refine Below.setCell ?_ (by first | omega | (simp; done) | (simp; omega)) _ | refine Below.trans ?_ (Below.mono (by assumption) (by first | omega | (simp; done) | (simp; omega)))))
end Go.Proofs.Ytjhndilflcigiaa
namespace Go.Proofs.Ytjhndilflcigiaa
open Go.RowKit

def icn (x : Int) : List Value := [.int .i64 x]
theorem icn_len (x : Int) : (icn x).length = 1 := rfl
def orL : List Int → Int
  | [] => 0
  | x :: r => if x ≠ 0 then x else orL r
theorem orL_at (l : List Int) (k : Nat) (h : k < l.length) : orL (l.drop k) = if l[k] ≠ 0 then l[k] else orL (l.drop (k + 1)) := by
  rw [List.drop_eq_getElem_cons h]; rfl
theorem Row.int1 {w : World} {b off : Nat} {l : List Int} (h : Row 1 icn w b off l) {i : Nat} (hi : i < l.length) : w.cell? ⟨b, off + i, none⟩ = some (.int .i64 l[i]) := by
  have := h i hi 0 _ rfl
  simpa using this
set_option maxHeartbeats 400000 in
theorem c_cmp_Or (l : List Int) (A : Option Addr) (c : Nat) (w : World) (h : In 1 icn w A c l) : Calls Try.prog 123 #[.slice A l.length c] w (RetV w (.int .i64 (orL l))) := by
  have hL := h.1
  have hC := h.2.1
  have hS := h.2.2.1
  have H0 : Hid (orL (l.drop 0) = orL l) := rfl
  go_enter Try.func123, Try.ntmps123
  go_wp2_with (fail)
  go_loopw [5, 8] (fun v i wr => ∃ k : Nat, k ≤ l.length ∧ i = .int .i64 k ∧ Hid (orL (l.drop k) = orL l) ∧ Below w.heap.size w wr) (fun _ i _ => l.length - (intOf i).toNat)
  case atStart => exact ⟨0, by omega, rfl, H0, Below.refl _ _⟩
  case round =>
    obtain ⟨k, hk, rfl, H, hbl⟩ := hrel
    have hbz := hbl.size
    by_cases hlt : k < l.length
    · obtain ⟨b, off, rfl, hb, hrow⟩ := h.at hlt
      have e0 := (hrow.below hbl hb).int1 hlt
      have hH := H.out
      rw [orL_at l k hlt] at hH
      clear h H H0
      by_cases hx : l[k] = 0
      · rw [if_neg (fun h => h hx)] at hH
        have HN := Lib.hid hH
        have bx : (l[k] != 0) = false := by simpa using hx
        clear hH hx
        go_wp2_with (fail)
        go_roundw
        case rel => exact ⟨k + 1, by omega, by go_num, HN.out, hbl⟩
        case measure => simp [intOf]; omega
      · rw [if_pos hx] at hH
        have HN := Lib.hid hH
        have bx : (l[k] != 0) = true := by simpa using hx
        clear hH hx
        go_wp2_with (fail)
        go_ret
        exact RetV.int HN.out hbl
    · have hH := H.out
      rw [List.drop_of_length_le (by omega)] at hH
      have HN := Lib.hid hH
      clear hH H H0
      go_wp2_with (fail)
      go_ret
      exact RetV.int HN.out hbl
theorem Node.cmp_or (x y : Node) : orL [cmpI x.op y.op, cmpI x.n y.n, x.v.cmp y.v] = x.cmp y := by
  unfold Node.cmp orL orL orL orL
  by_cases h1 : cmpI x.op y.op = 0 <;> by_cases h2 : cmpI x.n y.n = 0 <;> by_cases h3 : x.v.cmp y.v = 0 <;> simp [h1, h2, h3]
set_option maxHeartbeats 1000000 in
theorem c_pred_Compare1 (x y : Node) (w : World) : Calls Try.prog 122 #[x.val, y.val] w (RetV w (.int .i64 (x.cmp y))) := by
  unfold Node.val
  have H := Lib.hid (Node.cmp_or x y)
  go_enter Try.func122, Try.ntmps122
  go_wp2_with (fail)
  have hs1 : w.heap.size < w.heap.size + 1 + 1 := by omega
  have hs2 : w.heap.size + 1 < w.heap.size + 1 + 1 := by omega
  refine wp_region_tail 15 (by kernel_rfl) (by kernel_rfl) ?_
  simp only [List.take_succ_cons, List.take_zero, List.drop_succ_cons, List.drop_zero]
  repeat (quiet_step ((first | (go_at_call 124; exact quiet_grow (c_cmp_int _ _ _)) | (go_at_call 125; exact quiet_grow (c_value_Compare x.v y.v _)))))
  refine wpQuiet_nil ?_
  intro w2 hb2
  have hz2 := hb2.size
  simp only [World.size_alloc] at hz2
  go_wp2_with (fail)
  refine (c_cmp_Or [cmpI x.op y.op, cmpI x.n y.n, x.v.cmp y.v] _ 3 _ (In.lit icn_len w2 [cmpI x.op y.op, cmpI x.n y.n, x.v.cmp y.v] 3 3 rfl (by simp))).mono ?_
  rintro e w3 ⟨rfl, hb3⟩
  go_wp2_with (fail)
  go_ret
  exact RetV.int H.out (by repeat (first | exact Below.refl _ _ | refine Below.drew ?_ | refine Below.alloc ?_ (by first | omega | (simp; done) | (simp; omega)) _ | refine Below.setCell ?_ (by first | omega | (simp; done) | (simp; omega)) _ | refine Below.trans ?_ (Below.mono (by assumption) (by first | omega | (simp; done) | (simp; omega)))))
set_option maxHeartbeats 1000000 in
theorem c_CompareFunc (l1 l2 : List Node) (A1 A2 : Option Addr) (c1 c2 : Nat) (w : World) (h1 : InN w A1 c1 l1) (h2 : InN w A2 c2 l2) :
    Calls Try.prog 121 #[.slice A1 l1.length c1, .slice A2 l2.length c2, .func (.func 122) #[] #[]] w (RetV w (.int .i64 (cmpL l1 l2))) := by
  have hL1 := h1.1
  have hC1 := h1.2.1
  have hS1 := h1.2.2.1
  have hL2 := h2.1
  have hC2 := h2.2.1
  have hS2 := h2.2.2.1
  have H0 : Hid (cmpL (l1.drop 0) (l2.drop 0) = cmpL l1 l2) := by show _ = _; rw [List.drop_zero, List.drop_zero]
  go_enter Try.func121, Try.ntmps121
  go_wp2_with (fail)
  go_loopw [13] (fun i wr => ∃ k : Nat, k ≤ l1.length ∧ k ≤ l2.length ∧ i = .int .i64 k ∧ Hid (cmpL (l1.drop k) (l2.drop k) = cmpL l1 l2) ∧ Below w.heap.size w wr) (fun i _ => l1.length - (intOf i).toNat)
  case atStart => exact ⟨0, by omega, by omega, rfl, H0, Below.refl _ _⟩
  case round =>
    obtain ⟨k, hk1, hk2, rfl, H, hbl⟩ := hrel
    have hbz := hbl.size
    have hH := H.out
    clear H H0
    by_cases hlt1 : k < l1.length
    · obtain ⟨b1, off1, rfl, hb1, hrow1⟩ := h1.at hlt1
      obtain ⟨e0, e1, e2, e3, e4⟩ := (hrow1.below hbl hb1).node hlt1 rfl
      by_cases hlt2 : k < l2.length
      · obtain ⟨b2, off2, rfl, hb2, hrow2⟩ := h2.at hlt2
        obtain ⟨f0, f1, f2, f3, f4⟩ := (hrow2.below hbl hb2).node hlt2 rfl
        have hbr1 : b1 < wr.heap.size := by omega
        have hbr2 : b2 < wr.heap.size := by omega
        rw [cmpL_at _ _ k hlt1 hlt2] at hH
        clear h1 h2
        by_cases hx : l1[k].cmp l2[k] = 0
        · rw [if_neg (fun h => h hx)] at hH
          have HN := Lib.hid hH
          have bx : (l1[k].cmp l2[k] != 0) = false := by simpa using hx
          clear hH hx
          go_wp2_with (go_at_call 122; refine (c_pred_Compare1 l1[k] l2[k] _).mono ?_; rintro e w3 ⟨rfl, hb3⟩)
          go_roundw
          case rel => exact ⟨k + 1, by omega, by omega, by go_num, HN.out, (by repeat (first | exact Below.refl _ _ | refine Below.drew ?_ | refine Below.alloc ?_ (by first | omega | (simp; done) | (simp; omega)) _ | refine Below.setCell ?_ (by first | omega | (simp; done) | (simp; omega)) _ | refine Below.trans ?_ (Below.mono (by assumption) (by first | omega | (simp; done) | (simp; omega)))))⟩
          case measure => simp [intOf]; omega
        · rw [if_pos hx] at hH
          have HN := Lib.hid hH
          have bx : (l1[k].cmp l2[k] != 0) = true := by simpa using hx
          clear hH hx
          go_wp2_with (go_at_call 122; refine (c_pred_Compare1 l1[k] l2[k] _).mono ?_; rintro e w3 ⟨rfl, hb3⟩)
          go_ret
          exact RetV.int HN.out (by repeat (first | exact Below.refl _ _ | refine Below.drew ?_ | refine Below.alloc ?_ (by first | omega | (simp; done) | (simp; omega)) _ | refine Below.setCell ?_ (by first | omega | (simp; done) | (simp; omega)) _ | refine Below.trans ?_ (Below.mono (by assumption) (by first | omega | (simp; done) | (simp; omega)))))
      · rw [cmpL_right _ _ k hlt1 (by omega)] at hH
        have HN := Lib.hid hH
        clear hH h1 h2
        go_wp2_with (fail)
        go_ret
        exact RetV.int HN.out (by repeat (first | exact Below.refl _ _ | refine Below.drew ?_ | refine Below.alloc ?_ (by first | omega | (simp; done) | (simp; omega)) _ | refine Below.setCell ?_ (by first | omega | (simp; done) | (simp; omega)) _ | refine Below.trans ?_ (Below.mono (by assumption) (by first | omega | (simp; done) | (simp; omega)))))
    · by_cases hlt2 : k < l2.length
      · rw [cmpL_left _ _ k (by omega) hlt2] at hH
        have HN := Lib.hid hH
        have g1 : l1.length < l2.length := by omega
        clear hH
        go_wp2_with (fail)
        go_ret
        exact RetV.int HN.out hbl
      · rw [List.drop_of_length_le (by omega), List.drop_of_length_le (by omega)] at hH
        have HN := Lib.hid hH
        have g1 : ¬ l1.length < l2.length := by omega
        clear hH
        go_wp2_with (fail)
        go_ret
        exact RetV.int HN.out hbl
set_option maxHeartbeats 400000 in
theorem c_pred_Compare (l1 l2 : List Node) (A1 A2 : Option Addr) (c1 c2 : Nat) (w : World) (h1 : InN w A1 c1 l1) (h2 : InN w A2 c2 l2) :
    Calls Try.prog 90 #[.slice A1 l1.length c1, .slice A2 l2.length c2] w (RetV w (.int .i64 (cmpL l1 l2))) := by
  have hL1 := h1.1
  have hC1 := h1.2.1
  have hL2 := h2.1
  have hC2 := h2.2.1
  have H1 := Lib.hid h1
  have H2 := Lib.hid h2
  clear h1 h2
  go_enter Try.func90, Try.ntmps90
  go_wp2_with (fail)
  refine (c_CompareFunc l1 l2 _ _ _ _ _ H1.out H2.out).mono ?_
  rintro e w3 ⟨rfl, hb3⟩
  go_wp2_with (fail)
  go_ret
  exact RetV.int rfl hb3
end Go.Proofs.Ytjhndilflcigiaa
namespace Go.Proofs.Ytjhndilflcigiaa
open Go.RowKit

theorem rep_cells {w : World} {g : Nat} {a : Rep} {A : Option Addr} {c : Nat} (h : Blk w g (a.arr A c)) :
    w.cell? ⟨g, 0, none⟩ = some (.int .i64 a.kind) ∧ w.cell? ⟨g, 1, none⟩ = some (.int .i64 a.dev) ∧ w.cell? ⟨g, 2, none⟩ = some (.int .i64 a.req) ∧ w.cell? ⟨g, 3, none⟩ = some (.int .i64 a.code) ∧
    w.cell? ⟨g, 4, none⟩ = some (.int .i64 a.id) ∧ w.cell? ⟨g, 5, none⟩ = some (.int .i64 a.ver) ∧ w.cell? ⟨g, 6, none⟩ = some (.int .i64 a.seq) ∧ w.cell? ⟨g, 7, none⟩ = some (.int .i64 a.epoch) ∧
    w.cell? ⟨g, 8, none⟩ = some (.slice A a.f.length c) ∧ w.cell? ⟨g, 9, none⟩ = some (.int .u32 a.mask) :=
  ⟨h.cell rfl, h.cell rfl, h.cell rfl, h.cell rfl, h.cell rfl, h.cell rfl, h.cell rfl, h.cell rfl, h.cell rfl, h.cell rfl⟩
theorem rep_eq {a b : Rep} : decide (a = b) = ((a.kind == b.kind) && ((a.dev == b.dev) && ((a.req == b.req) && ((a.code == b.code) && ((a.id == b.id) && ((a.ver == b.ver) && ((a.seq == b.seq) && ((a.epoch == b.epoch) && (decide (a.f = b.f) && ((a.mask : Int) == (b.mask : Int))))))))))) := by
  rw [Bool.eq_iff_iff]
  obtain ⟨a0, a1, a2, a3, a4, a5, a6, a7, a8, a9⟩ := a
  obtain ⟨b0, b1, b2, b3, b4, b5, b6, b7, b8, b9⟩ := b
  simp only [decide_eq_true_eq, Rep.mk.injEq, Bool.and_eq_true, beq_iff_eq, Int.natCast_inj]
set_option maxHeartbeats 4000000 in
set_option maxRecDepth 4000 in
theorem c_ledger_Same (a b : Rep) (A B : Option Addr) (c d : Nat) (w : World) (ha : InN w A c a.f) (hb : InN w B d b.f) :
    Calls Try.prog 54 #[.agg (a.arr A c), .agg (b.arr B d)] w (RetV w (.bool (decide (a = b)))) := by
  have B0 := Lib.hid (At2.new w 47 47 (a.arr A c) (b.arr B d))
  obtain ⟨p0, p1, p2, p3, p4, p5, p6, p7, p8, p9⟩ := rep_cells B0.out.2.1; obtain ⟨q0, q1, q2, q3, q4, q5, q6, q7, q8, q9⟩ := rep_cells B0.out.2.2
  have HA := Lib.hid ha
  have HB := Lib.hid hb
  have E := Lib.hid (rep_eq (a := a) (b := b))
  clear ha hb
  by_cases hf : a.f = b.f
  · have F := Lib.hid (show decide (a.f = b.f) = true by simpa using hf)
    have C := Lib.hid ((cmpL_zero a.f b.f).2 hf)
    clear hf
    go_enter Try.func54, Try.ntmps54
    go_wp2_with (go_at_call 90; refine (c_pred_Compare a.f b.f A B c d _ (HA.out.below B0.out.1) (HB.out.below B0.out.1)).mono ?_; rintro e w1 ⟨rfl, hb1⟩; rw [C.out]; replace B0 := Lib.hid (B0.out.step hb1); clear p0 p1 p2 p3 p4 p5 p6 p7 p8 p9 q0 q1 q2 q3 q4 q5 q6 q7 q8 q9 hb1; obtain ⟨p0, p1, p2, p3, p4, p5, p6, p7, p8, p9⟩ := rep_cells B0.out.2.1; obtain ⟨q0, q1, q2, q3, q4, q5, q6, q7, q8, q9⟩ := rep_cells B0.out.2.2)
    all_goals
      go_ret
      refine RetV.bool ?_ B0.out.1
      rw [E.out, F.out]
      simp [*]
  · have E2 := Lib.hid (show decide (a = b) = false by simp only [decide_eq_false_iff_not]; intro h; exact hf (by rw [h]))
    have k : (cmpL a.f b.f != 0) = true := by simp only [bne_iff_ne, ne_eq, cmpL_zero]; exact hf
    clear hf
    go_enter Try.func54, Try.ntmps54
    go_wp2_with (go_at_call 90; refine (c_pred_Compare a.f b.f A B c d _ (HA.out.below B0.out.1) (HB.out.below B0.out.1)).mono ?_; rintro e w1 ⟨rfl, hb1⟩; replace B0 := Lib.hid (B0.out.step hb1); clear p0 p1 p2 p3 p4 p5 p6 p7 p8 p9 q0 q1 q2 q3 q4 q5 q6 q7 q8 q9 hb1; obtain ⟨p0, p1, p2, p3, p4, p5, p6, p7, p8, p9⟩ := rep_cells B0.out.2.1; obtain ⟨q0, q1, q2, q3, q4, q5, q6, q7, q8, q9⟩ := rep_cells B0.out.2.2)
    go_ret
    refine RetV.bool ?_ B0.out.1
    rw [E2.out]
set_option maxHeartbeats 4000000 in
set_option maxRecDepth 4000 in
theorem c_ref30_Same (a b : Rep) (A B : Option Addr) (c d : Nat) (w : World) (ha : InN w A c a.f) (hb : InN w B d b.f) :
    Calls Try.prog 21 #[.agg (a.arr A c), .agg (b.arr B d)] w (RetV w (.bool (decide (a = b)))) := by
  have B0 := Lib.hid (At2.new w 47 47 (a.arr A c) (b.arr B d))
  obtain ⟨p0, p1, p2, p3, p4, p5, p6, p7, p8, p9⟩ := rep_cells B0.out.2.1; obtain ⟨q0, q1, q2, q3, q4, q5, q6, q7, q8, q9⟩ := rep_cells B0.out.2.2
  have HA := Lib.hid ha
  have HB := Lib.hid hb
  have E := Lib.hid (rep_eq (a := a) (b := b))
  clear ha hb
  go_enter Try.func21, Try.ntmps21
  go_wp2_with (go_at_call 43; refine (c_ref10_Same a.f b.f A B c d _ (HA.out.below B0.out.1) (HB.out.below B0.out.1)).mono ?_; rintro e w1 ⟨rfl, hb1⟩; replace B0 := Lib.hid (B0.out.step hb1); clear p0 p1 p2 p3 p4 p5 p6 p7 p8 p9 q0 q1 q2 q3 q4 q5 q6 q7 q8 q9 hb1; obtain ⟨p0, p1, p2, p3, p4, p5, p6, p7, p8, p9⟩ := rep_cells B0.out.2.1; obtain ⟨q0, q1, q2, q3, q4, q5, q6, q7, q8, q9⟩ := rep_cells B0.out.2.2)
  all_goals
    go_ret
    refine RetV.bool ?_ B0.out.1
    rw [E.out]
    simp [*]
end Go.Proofs.Ytjhndilflcigiaa
namespace Go.Proofs.Ytjhndilflcigiaa
open Go.RowKit

/-- Blocks from number B on, each known whole, no two the same. -/
def Blks (w : World) (B : Nat) : List (Nat × Array Value) → Prop
  | [] => True
  | x :: r => (Blk w x.1 x.2 ∧ B ≤ x.1 ∧ ∀ y ∈ r, y.1 ≠ x.1) ∧ Blks w B r
section
variable {w w' : World} {B : Nat} {l : List (Nat × Array Value)}
theorem Blks.kept {q : Option Nat} (h : Blks w B l) (k : Kept q w.heap.size w w') (hq : ∀ g, q = some g → g < B) : Blks w' B l := by
  induction l with
  | nil => trivial
  | cons x r ih =>
    obtain ⟨⟨h1, h2, h3⟩, h4⟩ := h
    exact ⟨⟨h1.kept k h1.lt (fun e => by have := hq _ e; omega), h2, h3⟩, ih h4⟩
theorem Blks.far {q : Nat} (h : Blks w B l) (k : Kept (some q) w.heap.size w w') (hq : ∀ y ∈ l, y.1 ≠ q) : Blks w' B l := by
  induction l with
  | nil => trivial
  | cons x r ih =>
    obtain ⟨⟨h1, h2, h3⟩, h4⟩ := h
    exact ⟨⟨h1.kept k h1.lt (fun e => by injection e with e; exact hq x (List.mem_cons_self ..) e.symm), h2, h3⟩, ih h4 (fun y hy => hq y (List.mem_cons_of_mem _ hy))⟩
theorem Blks.lt (h : Blks w B l) : ∀ y ∈ l, y.1 < w.heap.size := by
  induction l with
  | nil => intro y hy; cases hy
  | cons x r ih =>
    intro y hy
    rcases List.mem_cons.1 hy with rfl | hy
    · exact h.1.1.lt
    · exact ih h.2 y hy
end
theorem kept_set (w : World) (g off : Nat) (v : Value) : Kept (some g) w.heap.size w (w.setCell ⟨g, off, none⟩ v) := (Kept.refl (some g) _ w).setCell (q := ⟨g, off, none⟩) (.inr rfl) v
/-- The program's reader, and blocks of the call's own. -/
structure EnvP (p : Option Nat) (S : Rd) (w w' : World) (l : List (Nat × Array Value)) : Prop where
  low : ∀ g, p = some g → g < w.heap.size
  kept : Kept p w.heap.size w w'
  rd : RdP w' p S
  blks : Blks w' w.heap.size l
section
variable {p : Option Nat} {S S' : Rd} {w w1 w2 : World} {l : List (Nat × Array Value)} {g g0 : Nat} {cs c0 cs' : Array Value}
theorem EnvP.size (h : EnvP p S w w1 l) : w.heap.size ≤ w1.heap.size := h.kept.size
theorem EnvP.call (h : EnvP p S w w1 l) (r : RdP w2 p S') (k : Kept p w1.heap.size w1 w2) : EnvP p S' w w2 l :=
  ⟨h.low, h.kept.then_kept k h.size, r, h.blks.kept k h.low⟩
theorem EnvP.below (h : EnvP p S w w1 l) (k : Below w1.heap.size w1 w2) : EnvP p S w w2 l :=
  ⟨h.low, h.kept.then_below k h.size, h.rd.below k, h.blks.kept (q := none) (.of_below k) (fun _ e => by cases e)⟩
theorem EnvP.alloc (h : EnvP p S w w1 l) (t : TypeId) (cs : Array Value) : EnvP p S w (w1.alloc (.cells cs t)) ((w1.heap.size, cs) :: l) := by
  have h' := h.below ((Below.refl _ _).alloc (Nat.le_refl _) (.cells cs t))
  exact ⟨h.low, h'.kept, h'.rd, ⟨Blk.new _ _ _, h.size, fun y hy => by have := h.blks.lt y hy; simp only; omega⟩, h'.blks⟩
theorem EnvP.own (h : EnvP p S w w1 l) (hg : w.heap.size ≤ g) (k : Kept (some g) w1.heap.size w1 w2) : Kept p w.heap.size w w2 ∧ RdP w2 p S :=
  ⟨h.kept.trans (k.one h.size (.inl hg)), h.rd.kept k (fun a b ha hb => by injection hb with hb; have := h.low a ha; omega)⟩
theorem EnvP.b0 (h : EnvP p S w w1 ((g, cs) :: l)) : Blk w1 g cs := h.blks.1.1
theorem EnvP.b1 (h : EnvP p S w w1 ((g0, c0) :: (g, cs) :: l)) : Blk w1 g cs := h.blks.2.1.1
theorem EnvP.as (h : EnvP p S w w1 ((g, cs) :: l)) (e : cs = cs') : EnvP p S w w1 ((g, cs') :: l) := e ▸ h
end
/-- The reference's reader, and blocks of the call's own. -/
structure EnvR (p : Nat) (S : Rd) (w w' : World) (l : List (Nat × Array Value)) : Prop where
  low : p < w.heap.size
  kept : Kept (some p) w.heap.size w w'
  rd : RdR w' p S
  blks : Blks w' w.heap.size l
section
variable {p : Nat} {S S' : Rd} {w w1 w2 : World} {l : List (Nat × Array Value)} {g g0 : Nat} {cs c0 cs' : Array Value}
theorem EnvR.size (h : EnvR p S w w1 l) : w.heap.size ≤ w1.heap.size := h.kept.size
theorem EnvR.call (h : EnvR p S w w1 l) (r : RdR w2 p S') (k : Kept (some p) w1.heap.size w1 w2) : EnvR p S' w w2 l :=
  ⟨h.low, h.kept.then_kept k h.size, r, h.blks.kept k (fun g e => by injection e with e; have := h.low; omega)⟩
theorem EnvR.below (h : EnvR p S w w1 l) (k : Below w1.heap.size w1 w2) : EnvR p S w w2 l :=
  ⟨h.low, h.kept.then_below k h.size, h.rd.below k, h.blks.kept (q := none) (.of_below k) (fun _ e => by cases e)⟩
theorem EnvR.alloc (h : EnvR p S w w1 l) (t : TypeId) (cs : Array Value) : EnvR p S w (w1.alloc (.cells cs t)) ((w1.heap.size, cs) :: l) := by
  have h' := h.below ((Below.refl _ _).alloc (Nat.le_refl _) (.cells cs t))
  exact ⟨h.low, h'.kept, h'.rd, ⟨Blk.new _ _ _, h.size, fun y hy => by have := h.blks.lt y hy; simp only; omega⟩, h'.blks⟩
theorem EnvR.own (h : EnvR p S w w1 l) (hg : w.heap.size ≤ g) (k : Kept (some g) w1.heap.size w1 w2) : Kept (some p) w.heap.size w w2 ∧ RdR w2 p S :=
  ⟨h.kept.trans (k.one h.size (.inl hg)), h.rd.kept k (fun e => by injection e with e; have := h.low; omega)⟩
theorem EnvR.b0 (h : EnvR p S w w1 ((g, cs) :: l)) : Blk w1 g cs := h.blks.1.1
theorem EnvR.b1 (h : EnvR p S w w1 ((g0, c0) :: (g, cs) :: l)) : Blk w1 g cs := h.blks.2.1.1
theorem EnvR.as (h : EnvR p S w w1 ((g, cs) :: l)) (e : cs = cs') : EnvR p S w w1 ((g, cs') :: l) := e ▸ h
end
end Go.Proofs.Ytjhndilflcigiaa
