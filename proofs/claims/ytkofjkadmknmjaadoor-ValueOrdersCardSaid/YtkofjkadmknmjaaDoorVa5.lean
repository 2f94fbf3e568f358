/-
  Lemmas (walks and plain laws), in one text.
-/
import Derived.Test.YtkofjkadmknmjaaDoorVa4
import Derived.Test.YtkofjkadmknmjaaDoorRows
import Derived.WalkKit
import Derived.WalkSpells
import Derived.WalkLawsBesides
import Derived.Lib.Hide
import Derived.Deep.QuietTactic
import Derived.BigQuiet
import Derived.Maps.AppendAt
import Derived.WalkSmall
import Derived.ProofKit
import Derived.OpenShut
import Derived.JoinedCond
import Derived.Deep.Slices
import Derived.Deep.Fields
import Derived.Carry
import Derived.Shelf.Small.Wraps
import Derived.Shelf.Utf8.RuneCount
import Derived.Shelf.Strconv.Itoa0
import Derived.Shelf.Strconv.Itoa1
import Derived.Shelf.LaysM
import Derived.Shelf.Strconv.Itoa2
import Derived.Shelf.Strconv.Itoa3
import Derived.Shelf.Strings.Search1
import Derived.Shelf.Strings.Search2
import Derived.Shelf.Strings.Search3
import Derived.Shelf.Strings.Count
import Derived.Shelf.Strings.Shaped
import Derived.Shelf.Strings.Prefix
import Derived.Shelf.Strings.Split
import Derived.Shelf.Strings.SplitShaped
import Derived.Shelf.Unicode.DecodeSlow
import Derived.Test.YtkofjkadmknmjaaDoorProg
import Derived.Deep.AppendSrc
import Derived.Lib.AppendStr
import Derived.Laws.BytesArg
import Derived.Lib.AppendIntMem
import Derived.Lib.ItoaLen
import Derived.Test.YtkofjkadmknmjaaDoorTie
import Derived.Lib.LaidTab
import Derived.LaidMore
import Derived.Stop.LaidErr
import Derived.SevenTiedAt
import Derived.HandedShaped
import Derived.Test.YtkofjkadmknmjaaDoorCards
import Derived.Deep.CutBlock
import Derived.Deep.DeepCutAuto
import Derived.Laws.IdiomStrings
import Derived.Outline
import Derived.IntWalk
import Derived.StillTail
import Derived.Laws.Tables
import Derived.Laws.Rows
import Derived.ChangeKeysEq
import Derived.Laws.StructEq
import Derived.Lib.AppendZeros
import Derived.Deep.Quiet
import Derived.OwnWalk
import Derived.Lib.TrailingZeros
import Derived.Lib.SplitLaws
import Derived.Lib.ItoaNum
import Derived.Shelf.Strings.PiecesUse
namespace Go.Proofs.YtkofjkadmknmjaaDoor
open Go.RowKit

theorem cmpS_step (a b : List UInt8) (k : Nat) (ha : k < a.length) (hb : k < b.length) : cmpS (a.drop k) (b.drop k) = if cmpI a[k].toNat b[k].toNat ≠ 0 then cmpI a[k].toNat b[k].toNat else cmpS (a.drop (k + 1)) (b.drop (k + 1)) := by
  rw [List.drop_eq_getElem_cons ha, List.drop_eq_getElem_cons hb]
  show (if a[k].toNat < b[k].toNat then _ else _) = _
  by_cases h1 : a[k].toNat < b[k].toNat
  · rw [if_pos h1, cmpI_lt (by omega)]; rfl
  · rw [if_neg h1]
    by_cases h2 : b[k].toNat < a[k].toNat
    · rw [if_pos h2, cmpI_gt (by omega)]; rfl
    · rw [if_neg h2, cmpI_eq (by omega)]; rfl
theorem cmpS_end (a b : List UInt8) (k : Nat) (ha : k ≤ a.length) (hb : k ≤ b.length) (h : ¬ (k < a.length ∧ k < b.length)) : cmpS (a.drop k) (b.drop k) = cmpI a.length b.length := by
  by_cases h1 : k < a.length
  · have h2 : b.length ≤ k := by omega
    rw [List.drop_of_length_le h2, List.drop_eq_getElem_cons h1, cmpI_gt (by omega)]; rfl
  · rw [List.drop_of_length_le (by omega : a.length ≤ k)]
    by_cases h2 : k < b.length
    · rw [List.drop_eq_getElem_cons h2, cmpI_lt (by omega)]; rfl
    · rw [List.drop_of_length_le (by omega : b.length ≤ k), cmpI_eq (by omega)]; rfl
set_option maxHeartbeats 1000000 in
theorem c_ref04_Compare (x y : Val) (w : World) (hsx : x.s.length ≤ 4294967296) (hsy : y.s.length ≤ 4294967296) : Calls Tryd.prog 17 #[x.val, y.val] w (RetV w (.int .i64 (x.cmp y))) := by
  unfold Val.val
  by_cases h1 : x.kind = y.kind
  case neg =>
    have b1 : (x.kind != y.kind) = true := by simpa using h1
    have H : Hid (cmpI x.kind y.kind = x.cmp y) := by show _ = _; unfold Val.cmp; rw [if_pos (mt cmpI_zero.1 h1)]
    clear h1
    go_enter Tryd.func17, Tryd.ntmps17
    go_wp2_with (fail)
    refine (c_ref04_ahead _ _ _).mono ?_
    rintro e w1 ⟨rfl, hb1⟩
    go_wp2_with (fail)
    go_ret
    exact RetV.int H.out (by repeat (first | exact Below.refl _ _ | refine Below.drew ?_ | refine Below.alloc ?_ (by first | omega | (simp; done) | (simp; omega)) _ | refine Below.setCell ?_ (by first | omega | (simp; done) | (simp; omega)) _ | refine Below.trans ?_ (Below.mono (by assumption) (by first | omega | (simp; done) | (simp; omega)))))
  have b1 : (x.kind != y.kind) = false := by simpa using h1
  by_cases h2 : x.n = y.n
  case neg =>
    have b2 : (x.n != y.n) = true := by simpa using h2
    have H : Hid (cmpI x.n y.n = x.cmp y) := by show _ = _; unfold Val.cmp; rw [if_neg (by simp [cmpI_eq h1]), if_pos (mt cmpI_zero.1 h2)]
    clear h1 h2
    go_enter Tryd.func17, Tryd.ntmps17
    go_wp2_with (fail)
    refine (c_ref04_ahead _ _ _).mono ?_
    rintro e w1 ⟨rfl, hb1⟩
    go_wp2_with (fail)
    go_ret
    exact RetV.int H.out (by repeat (first | exact Below.refl _ _ | refine Below.drew ?_ | refine Below.alloc ?_ (by first | omega | (simp; done) | (simp; omega)) _ | refine Below.setCell ?_ (by first | omega | (simp; done) | (simp; omega)) _ | refine Below.trans ?_ (Below.mono (by assumption) (by first | omega | (simp; done) | (simp; omega)))))
  have b2 : (x.n != y.n) = false := by simpa using h2
  have H : Hid (cmpS (x.s.drop 0) (y.s.drop 0) = x.cmp y) := by show _ = _; unfold Val.cmp; rw [if_neg (by simp [cmpI_eq h1]), if_neg (by simp [cmpI_eq h2])]; simp
  clear h1 h2
  go_enter Tryd.func17, Tryd.ntmps17
  go_wp2_with (fail)
  go_loopw [5] (fun i wr => ∃ k : Nat, k ≤ x.s.length ∧ k ≤ y.s.length ∧ i = .int .i64 k ∧ Hid (cmpS (x.s.drop k) (y.s.drop k) = x.cmp y) ∧ w.heap.size + 1 < wr.heap.size ∧
      wr.cell? ⟨w.heap.size, 2, none⟩ = some (.string (str x.s)) ∧ wr.cell? ⟨w.heap.size + 1, 2, none⟩ = some (.string (str y.s)) ∧ Below w.heap.size w wr) (fun i _ => x.s.length - (intOf i).toNat)
  case atStart => exact ⟨0, by omega, by omega, rfl, H.out, by simp, by simp [go_sem], by simp [go_sem], (by repeat (first | exact Below.refl _ _ | refine Below.drew ?_ | refine Below.alloc ?_ (by first | omega | (simp; done) | (simp; omega)) _ | refine Below.setCell ?_ (by first | omega | (simp; done) | (simp; omega)) _ | refine Below.trans ?_ (Below.mono (by assumption) (by first | omega | (simp; done) | (simp; omega)))))⟩
  case round =>
    obtain ⟨k, hkx, hky, rfl, H, hsz, q1, q2, hbl⟩ := hrel
    by_cases hlt : k < x.s.length ∧ k < y.s.length
    · obtain ⟨hlx, hly⟩ := hlt
      have hH := H.out
      rw [cmpS_step _ _ k hlx hly] at hH
      have i0 : (0 : Int) ≤ (k : Int) := by omega
      have i1 : (k : Int) < (x.s.length : Int) := by omega
      have i2 : (k : Int) < (y.s.length : Int) := by omega
      have s1 : x.s[k]? = some x.s[k] := by simp [hlx]
      have s2 : y.s[k]? = some y.s[k] := by simp [hly]
      have hs1 : w.heap.size < wr.heap.size := by omega
      by_cases hx : cmpI x.s[k].toNat y.s[k].toNat = 0
      · have he : x.s[k] = y.s[k] := UInt8.toNat_inj.1 (by have := cmpI_zero.1 hx; omega)
        rw [if_neg (fun h => h hx)] at hH
        have HN := Lib.hid hH
        have bx : ((x.s[k].toNat : Int) != (y.s[k].toNat : Int)) = false := by rw [he]; simp
        clear hH H hx he
        go_wp2_with (fail)
        refine wp_region_grow (by kernel_rfl) (by kernel_rfl) ?_
        repeat (quiet_step ((first | fail)))
        refine wpQuiet_nil ?_
        intro w2 hb2
        have hz2 := hb2.size
        go_wp2_with (fail)
        go_roundw
        case rel => exact ⟨k + 1, by omega, by omega, by go_num, HN.out, by omega, by rw [hb2.cell (p := ⟨w.heap.size, 2, none⟩) hs1]; exact q1, by rw [hb2.cell (p := ⟨w.heap.size + 1, 2, none⟩) hsz]; exact q2, (by repeat (first | exact Below.refl _ _ | refine Below.drew ?_ | refine Below.alloc ?_ (by first | omega | (simp; done) | (simp; omega)) _ | refine Below.setCell ?_ (by first | omega | (simp; done) | (simp; omega)) _ | refine Below.trans ?_ (Below.mono (by assumption) (by first | omega | (simp; done) | (simp; omega)))))⟩
        case measure => simp [intOf]; omega
      · rw [if_pos hx] at hH
        have HN := Lib.hid hH
        have bx : ((x.s[k].toNat : Int) != (y.s[k].toNat : Int)) = true := by
          have := mt cmpI_zero.2 hx
          simpa using this
        clear hH H hx
        go_wp2_with (fail)
        refine wp_region_grow (by kernel_rfl) (by kernel_rfl) ?_
        repeat (quiet_step ((first | fail)))
        refine wpQuiet_nil ?_
        intro w2 hb2
        have hz2 := hb2.size
        have r1 : w2.cell? ⟨w.heap.size, 2, none⟩ = some (.string (str x.s)) := by rw [hb2.cell (p := ⟨w.heap.size, 2, none⟩) hs1]; exact q1
        have r2 : w2.cell? ⟨w.heap.size + 1, 2, none⟩ = some (.string (str y.s)) := by rw [hb2.cell (p := ⟨w.heap.size + 1, 2, none⟩) hsz]; exact q2
        have hs2 : w.heap.size < w2.heap.size := by omega
        have hs3 : w.heap.size + 1 < w2.heap.size := by omega
        go_wp2_with (fail)
        refine wp_region_grow (by kernel_rfl) (by kernel_rfl) ?_
        repeat (quiet_step ((first | (go_at_call 71; exact quiet_grow (c_ref04_ahead _ _ _)))))
        refine wpQuiet_nil ?_
        intro w3 hb3
        have t1 : IntKind.i64.wrap (x.s[k].toNat : Int) = x.s[k].toNat := by rw [IntKind.wrap_i64]; have := x.s[k].toNat_lt; omega
        have t2 : IntKind.i64.wrap (y.s[k].toNat : Int) = y.s[k].toNat := by rw [IntKind.wrap_i64]; have := y.s[k].toNat_lt; omega
        go_wp2_with (fail)
        go_ret
        exact RetV.int (by first | exact HN.out | (rw [t1, t2]; exact HN.out)) (by repeat (first | exact Below.refl _ _ | refine Below.drew ?_ | refine Below.alloc ?_ (by first | omega | (simp; done) | (simp; omega)) _ | refine Below.setCell ?_ (by first | omega | (simp; done) | (simp; omega)) _ | refine Below.trans ?_ (Below.mono (by assumption) (by first | omega | (simp; done) | (simp; omega)))))
    · have hH := H.out
      rw [cmpS_end _ _ k hkx hky hlt] at hH
      have HN := Lib.hid hH
      clear hH H
      have hs1 : w.heap.size < wr.heap.size := by omega
      by_cases hlx : k < x.s.length
      · have hly : ¬ k < y.s.length := fun h => hlt ⟨hlx, h⟩
        clear hlt
        go_wp2_with (fail)
        refine (c_ref04_ahead _ _ _).mono ?_
        rintro e w3 ⟨rfl, hb3⟩
        go_wp2_with (fail)
        go_ret
        exact RetV.int HN.out (by repeat (first | exact Below.refl _ _ | refine Below.drew ?_ | refine Below.alloc ?_ (by first | omega | (simp; done) | (simp; omega)) _ | refine Below.setCell ?_ (by first | omega | (simp; done) | (simp; omega)) _ | refine Below.trans ?_ (Below.mono (by assumption) (by first | omega | (simp; done) | (simp; omega)))))
      · clear hlt
        go_wp2_with (fail)
        refine (c_ref04_ahead _ _ _).mono ?_
        rintro e w3 ⟨rfl, hb3⟩
        go_wp2_with (fail)
        go_ret
        exact RetV.int HN.out (by repeat (first | exact Below.refl _ _ | refine Below.drew ?_ | refine Below.alloc ?_ (by first | omega | (simp; done) | (simp; omega)) _ | refine Below.setCell ?_ (by first | omega | (simp; done) | (simp; omega)) _ | refine Below.trans ?_ (Below.mono (by assumption) (by first | omega | (simp; done) | (simp; omega)))))
end Go.Proofs.YtkofjkadmknmjaaDoor
namespace Go.Proofs.YtkofjkadmknmjaaDoor

/-- Is a value less than another one of its kind? -/
def Val.less (a b : Val) : Bool := decide (a.kind = b.kind) && (decide (a.kind = 1) || decide (a.kind = 2)) && decide (a.cmp b < 0)
/-! Letters made small. -/
def lowC (c : UInt8) : UInt8 := if 65 ≤ c.toNat ∧ c.toNat ≤ 90 then UInt8.ofNat (c.toNat + 32) else c
def fold (s : List UInt8) : List UInt8 := s.map lowC
theorem fold_len (s : List UInt8) : (fold s).length = s.length := by unfold fold; simp
end Go.Proofs.YtkofjkadmknmjaaDoor
namespace Go.Proofs.YtkofjkadmknmjaaDoor
open Go.RowKit

theorem Val.less_no {a b : Val} (h : ¬ (a.kind = b.kind ∧ (a.kind = 1 ∨ a.kind = 2))) : a.less b = false := by
  unfold Val.less
  rw [Bool.and_eq_false_iff]
  left
  rw [Bool.and_eq_false_iff, Bool.or_eq_false_iff]
  simp only [decide_eq_false_iff_not]
  omega
theorem Val.less_yes {a b : Val} (h : a.kind = b.kind ∧ (a.kind = 1 ∨ a.kind = 2)) : a.less b = decide (a.cmp b < 0) := by
  unfold Val.less
  have h1 : decide (a.kind = b.kind) = true := by simpa using h.1
  have h2 : (decide (a.kind = 1) || decide (a.kind = 2)) = true := by simpa using h.2
  rw [h1, h2]; rfl
set_option maxHeartbeats 1000000 in
theorem c_value_Less (x y : Val) (w : World) : Calls Tryd.prog 18 #[x.val, y.val] w (RetV w (.bool (x.less y))) := by
  have CC := Lib.hid (fun w' => c_value_Compare x y w')
  unfold Val.val at CC ⊢
  by_cases h : x.kind = y.kind ∧ (x.kind = 1 ∨ x.kind = 2)
  · have H := Lib.hid (Val.less_yes h)
    have j1 : (x.kind != y.kind) = false := by simpa using h.1
    rcases h.2 with g | g
    · have j2 : (x.kind != 1) = false := by simpa using g
      clear h g
      go_enter Tryd.func18, Tryd.ntmps18
      go_wp2_with (fail)
      refine (CC.out _).mono ?_
      rintro e w1 ⟨rfl, hb1⟩
      go_wp2_with (fail)
      go_ret
      exact RetV.bool H.out.symm (by repeat (first | exact Below.refl _ _ | refine Below.drew ?_ | refine Below.alloc ?_ (by first | omega | (simp; done) | (simp; omega)) _ | refine Below.setCell ?_ (by first | omega | (simp; done) | (simp; omega)) _ | refine Below.trans ?_ (Below.mono (by assumption) (by first | omega | (simp; done) | (simp; omega)))))
    · have j2 : (x.kind != 1) = true := by simp; omega
      have j3 : (x.kind != 2) = false := by simpa using g
      clear h g
      go_enter Tryd.func18, Tryd.ntmps18
      go_wp2_with (fail)
      refine (CC.out _).mono ?_
      rintro e w1 ⟨rfl, hb1⟩
      go_wp2_with (fail)
      go_ret
      exact RetV.bool H.out.symm (by repeat (first | exact Below.refl _ _ | refine Below.drew ?_ | refine Below.alloc ?_ (by first | omega | (simp; done) | (simp; omega)) _ | refine Below.setCell ?_ (by first | omega | (simp; done) | (simp; omega)) _ | refine Below.trans ?_ (Below.mono (by assumption) (by first | omega | (simp; done) | (simp; omega)))))
  · rw [Val.less_no h]
    by_cases h1 : x.kind = y.kind
    · have j1 : (x.kind != y.kind) = false := by simpa using h1
      have j2 : (x.kind != 1) = true := by simp; omega
      have j3 : (x.kind != 2) = true := by simp; omega
      clear h h1
      go_enter Tryd.func18, Tryd.ntmps18
      go_wp2_with (fail)
      go_ret
      exact RetV.bool rfl (by repeat (first | exact Below.refl _ _ | refine Below.drew ?_ | refine Below.alloc ?_ (by first | omega | (simp; done) | (simp; omega)) _ | refine Below.setCell ?_ (by first | omega | (simp; done) | (simp; omega)) _ | refine Below.trans ?_ (Below.mono (by assumption) (by first | omega | (simp; done) | (simp; omega)))))
    · have j1 : (x.kind != y.kind) = true := by simpa using h1
      clear h h1
      go_enter Tryd.func18, Tryd.ntmps18
      go_wp2_with (fail)
      go_ret
      exact RetV.bool rfl (by repeat (first | exact Below.refl _ _ | refine Below.drew ?_ | refine Below.alloc ?_ (by first | omega | (simp; done) | (simp; omega)) _ | refine Below.setCell ?_ (by first | omega | (simp; done) | (simp; omega)) _ | refine Below.trans ?_ (Below.mono (by assumption) (by first | omega | (simp; done) | (simp; omega)))))
set_option maxHeartbeats 1000000 in
theorem c_ref04_Less (x y : Val) (w : World) (hsx : x.s.length ≤ 4294967296) (hsy : y.s.length ≤ 4294967296) : Calls Tryd.prog 19 #[x.val, y.val] w (RetV w (.bool (x.less y))) := by
  have CC := Lib.hid (fun w' => c_ref04_Compare x y w' hsx hsy)
  unfold Val.val at CC ⊢
  by_cases h : x.kind = y.kind ∧ (x.kind = 1 ∨ x.kind = 2)
  · have H := Lib.hid (Val.less_yes h)
    have j1 : (x.kind == y.kind) = true := by simpa using h.1
    rcases h.2 with g | g
    · have j2 : (x.kind == 1) = true := by simpa using g
      clear h g
      go_enter Tryd.func19, Tryd.ntmps19
      go_wp2_with (fail)
      refine (CC.out _).mono ?_
      rintro e w1 ⟨rfl, hb1⟩
      go_wp2_with (fail)
      go_ret
      exact RetV.bool H.out.symm (by repeat (first | exact Below.refl _ _ | refine Below.drew ?_ | refine Below.alloc ?_ (by first | omega | (simp; done) | (simp; omega)) _ | refine Below.setCell ?_ (by first | omega | (simp; done) | (simp; omega)) _ | refine Below.trans ?_ (Below.mono (by assumption) (by first | omega | (simp; done) | (simp; omega)))))
    · have j2 : (x.kind == 1) = false := by simp; omega
      have j3 : (x.kind == 2) = true := by simpa using g
      clear h g
      go_enter Tryd.func19, Tryd.ntmps19
      go_wp2_with (fail)
      refine (CC.out _).mono ?_
      rintro e w1 ⟨rfl, hb1⟩
      go_wp2_with (fail)
      go_ret
      exact RetV.bool H.out.symm (by repeat (first | exact Below.refl _ _ | refine Below.drew ?_ | refine Below.alloc ?_ (by first | omega | (simp; done) | (simp; omega)) _ | refine Below.setCell ?_ (by first | omega | (simp; done) | (simp; omega)) _ | refine Below.trans ?_ (Below.mono (by assumption) (by first | omega | (simp; done) | (simp; omega)))))
  · rw [Val.less_no h]
    by_cases h1 : x.kind = y.kind
    · have j1 : (x.kind == y.kind) = true := by simpa using h1
      have j2 : (x.kind == 1) = false := by simp; omega
      have j3 : (x.kind == 2) = false := by simp; omega
      clear h h1
      go_enter Tryd.func19, Tryd.ntmps19
      go_wp2_with (fail)
      go_ret
      exact RetV.bool rfl (by repeat (first | exact Below.refl _ _ | refine Below.drew ?_ | refine Below.alloc ?_ (by first | omega | (simp; done) | (simp; omega)) _ | refine Below.setCell ?_ (by first | omega | (simp; done) | (simp; omega)) _ | refine Below.trans ?_ (Below.mono (by assumption) (by first | omega | (simp; done) | (simp; omega)))))
    · have j1 : (x.kind == y.kind) = false := by simpa using h1
      clear h h1
      go_enter Tryd.func19, Tryd.ntmps19
      go_wp2_with (fail)
      go_ret
      exact RetV.bool rfl (by repeat (first | exact Below.refl _ _ | refine Below.drew ?_ | refine Below.alloc ?_ (by first | omega | (simp; done) | (simp; omega)) _ | refine Below.setCell ?_ (by first | omega | (simp; done) | (simp; omega)) _ | refine Below.trans ?_ (Below.mono (by assumption) (by first | omega | (simp; done) | (simp; omega)))))
theorem lowC_nat (c : UInt8) : ((lowC c).toNat : Int) = if 65 ≤ c.toNat ∧ c.toNat ≤ 90 then (c.toNat : Int) + 32 else c.toNat := by
  unfold lowC
  have := c.toNat_lt
  split
  · rw [UInt8.toNat_ofNat']; omega
  · rfl
set_option maxHeartbeats 400000 in
theorem c_ref04_low (c : UInt8) (w : World) : Calls Tryd.prog 72 #[.int .u8 c.toNat] w (RetV w (.int .u8 (lowC c).toNat)) := by
  have hc := c.toNat_lt
  have H := Lib.hid (lowC_nat c)
  go_enter Tryd.func72, Tryd.ntmps72
  go_wp2_with (fail)
  all_goals (go_ret; refine RetV.int ?_ (by repeat (first | exact Below.refl _ _ | refine Below.drew ?_ | refine Below.alloc ?_ (by first | omega | (simp; done) | (simp; omega)) _ | refine Below.setCell ?_ (by first | omega | (simp; done) | (simp; omega)) _ | refine Below.trans ?_ (Below.mono (by assumption) (by first | omega | (simp; done) | (simp; omega))))); rw [H.out]; split <;> omega)
end Go.Proofs.YtkofjkadmknmjaaDoor
namespace Go.Proofs.YtkofjkadmknmjaaDoor
open Go.RowKit

/-- Bytes in a block that may be written. -/
def WrB (W : World) (e : TypeId) (b : Nat) (l : List UInt8) : Prop :=
  ∃ cs lo hi, W.heap[b]? = some (.cells cs e (lo, hi)) ∧ l.length ≤ lo ∧ ∀ i (h : i < l.length), cs[i]? = some (.int .u8 l[i].toNat)
theorem WrB.lt {W : World} {e : TypeId} {b : Nat} {l : List UInt8} (h : WrB W e b l) : b < W.heap.size := by
  obtain ⟨cs, lo, hi, h1, _⟩ := h
  exact (Array.getElem?_eq_some_iff.1 h1).1
theorem WrB.cell {W : World} {e : TypeId} {b : Nat} {l : List UInt8} (h : WrB W e b l) {k : Nat} (hk : k < l.length) : W.cell? ⟨b, k, none⟩ = some (.int .u8 l[k].toNat) := by
  obtain ⟨cs, lo, hi, h1, _, h3⟩ := h
  have := h3 k hk
  simp [World.cell?, h1, this]
theorem WrB.frozen {W : World} {e : TypeId} {b : Nat} {l : List UInt8} (h : WrB W e b l) {k : Nat} (hk : k < l.length) : W.frozen? ⟨b, k, none⟩ = false := by
  obtain ⟨cs, lo, hi, h1, h2, _⟩ := h
  simp [World.frozen?, h1]
  omega
theorem WrB.set {W : World} {e : TypeId} {b : Nat} {l : List UInt8} (h : WrB W e b l) (k : Nat) (x : UInt8) : WrB (W.setCell ⟨b, k, none⟩ (.int .u8 x.toNat)) e b (l.set k x) := by
  have hlt := h.lt
  obtain ⟨cs, lo, hi, h1, h2, h3⟩ := h
  have he : (W.setCell ⟨b, k, none⟩ (.int .u8 x.toNat)).heap[b]? = some (.cells (cs.setIfInBounds k (.int .u8 x.toNat)) e (lo, hi)) := by
    show (W.heap.modify b _)[b]? = _
    rw [Array.getElem?_eq_getElem (by rw [Array.size_modify]; exact hlt), Array.getElem_modify_self]
    rw [Array.getElem?_eq_getElem hlt] at h1
    injection h1 with h1
    rw [h1]; rfl
  refine ⟨_, lo, hi, he, by rw [List.length_set]; exact h2, fun i hi => ?_⟩
  rw [List.length_set] at hi
  have := h3 i hi
  rw [Array.getElem?_setIfInBounds]
  by_cases hik : k = i
  · subst hik
    rw [if_pos rfl, if_pos (Array.getElem?_eq_some_iff.1 this).1, List.getElem_set_self]
  · rw [if_neg hik, this, List.getElem_set_ne hik]
theorem WrB.below {W W' : World} {e : TypeId} {b : Nat} {l : List UInt8} (h : WrB W e b l) (hb : Below W.heap.size W W') : WrB W' e b l := by
  have hlt := h.lt
  obtain ⟨cs, lo, hi, h1, h2⟩ := h
  exact ⟨cs, lo, hi, (hb.block b hlt).trans h1, h2⟩
theorem WrB.reads {W : World} {e : TypeId} {b c : Nat} {l : List UInt8} (h : WrB W e b l) (h1 : l.length ≤ c) (h2 : c ≤ 9223372036854775807) (h3 : l.length ≤ 4294967296) : InB W (some ⟨b, 0, none⟩) c l := by
  refine ⟨h1, h2, h3, .inr ⟨b, 0, rfl, h.lt, fun i hi j u hu => ?_⟩⟩
  have hj : j < 1 := (List.getElem?_eq_some_iff.1 hu).1
  have h0 : j = 0 := by omega
  subst h0
  simp only [bc, List.getElem?_cons_zero, Option.some.injEq] at hu
  rw [show 0 + i * 1 + 0 = i by omega, ← hu]
  exact h.cell hi
theorem wpList_strbytesW {P : Program} {w : World} {ops : Array Oper} {rest : List Oper} {o : Oper} {a : Act} {Q : Exit → Act → World → Prop} (hgd : o.guard = none) (src dst : TypeId) (x : Operand) (ho : o.op = .convert src dst x)
    {e : TypeId} (hs : P.underlying src = some .string) (hd : P.underlying dst = some (.slice e)) (he : P.underlying e = some (.int .u8)) (l : List UInt8) (hx : a.eval x = .string (str l)) (hl : l.length ≤ 4294967296)
    (h : ∀ c w', l.length ≤ c → c ≤ 9223372036854775807 → Below w.heap.size w w' → w'.heap.size = w.heap.size + 1 → WrB w' e w.heap.size l → wpList P ops Q rest (a.put o.dst (.slice (some ⟨w.heap.size, 0, none⟩) l.length c)) w') : wpList P ops Q (o :: rest) a w := by
  refine wpList_plain hgd fun K hK => ?_
  have hrun := run_bytes_of_string (P := P) w src dst e (str l) hs hd he
  have hge := grownCap_ge w (str l).size 0 e
  have hcm := grownCap_le_maxLen w (str l).size 0 e (by rw [str_size]; unfold maxLen; omega)
  rw [str_size] at hrun hge hcm
  unfold Oper.wp execOp
  simp only [ho, hx, hrun, Sem.run_bind, Sem.run_pure, Result.andThen_ok]
  refine hK _ _ (h _ _ hge (by unfold maxLen at hcm; omega) (((Below.refl _ _).drew).alloc (Nat.le_refl _) _) (World.size_alloc _ _) ⟨_, _, _, heap_alloc_new w.drew _, ?_, fun i hi => ?_⟩)
  · have e : (bytesRow (str l) (grownCap w l.length 0 e)).size = l.length + (grownCap w l.length 0 e - l.length) := by
      unfold bytesRow
      rw [Array.size_append, Array.size_map, Array.size_replicate, str_size]
      show l.toArray.size + _ = _
      simp
    omega
  · have hb := bytesRow_at (str l) (grownCap w l.length 0 e) i (by show i < l.toArray.size; simpa using hi)
    rw [hb]
    rfl
theorem fold_snoc {s : List UInt8} {k : Nat} (hk : k < s.length) : fold (s.take (k + 1)) = fold (s.take k) ++ [lowC s[k]] := by
  unfold fold
  rw [List.take_succ_eq_append_getElem hk, List.map_append]; rfl
/-- A text of which the first bytes have been made small. -/
def foldTo (s : List UInt8) (k : Nat) : List UInt8 := fold (s.take k) ++ s.drop k
theorem foldTo_len (s : List UInt8) {k : Nat} (hk : k ≤ s.length) : (foldTo s k).length = s.length := by unfold foldTo; rw [List.length_append, fold_len, List.length_take, List.length_drop]; omega
theorem foldTo_get (s : List UInt8) {k : Nat} (hk : k < s.length) : (foldTo s k)[k]'(by rw [foldTo_len s (by omega)]; exact hk) = s[k] := by
  unfold foldTo
  rw [List.getElem_append_right (by rw [fold_len, List.length_take]; omega)]
  simp [fold_len, List.length_take, Nat.min_eq_left (Nat.le_of_lt hk)]
theorem foldTo_set (s : List UInt8) {k : Nat} (hk : k < s.length) : (foldTo s k).set k (lowC s[k]) = foldTo s (k + 1) := by
  unfold foldTo
  have hl : (fold (s.take k)).length = k := by rw [fold_len, List.length_take]; omega
  rw [List.set_append_right _ _ (by omega), hl, Nat.sub_self, List.drop_eq_getElem_cons hk, List.set_cons_zero, fold_snoc hk, List.append_assoc]; rfl
theorem foldTo_same (s : List UInt8) {k : Nat} (hk : k < s.length) (h : lowC s[k] = s[k]) : foldTo s k = foldTo s (k + 1) := by
  unfold foldTo
  rw [List.drop_eq_getElem_cons hk, fold_snoc hk, h, List.append_assoc]; rfl
theorem foldTo_end (s : List UInt8) : foldTo s s.length = fold s := by unfold foldTo; rw [List.take_length, List.drop_length, List.append_nil]
set_option maxHeartbeats 1000000 in
theorem c_ref04_Fold (s : List UInt8) (w : World) (hs : s.length ≤ 1000000) : Calls Tryd.prog 21 #[.string (str s)] w (RetV w (.string (str (fold s)))) := by
  have kc := fun (w : World) (x : Int) => conv_one (P := Tryd.prog) w (src := 63) (dst := 9) (e := 5) Tryd.underlying63 Tryd.underlying5 Tryd.underlying9 x
  go_enter Tryd.func21, Tryd.ntmps21
  go_wp2_with (fail)
  rw [show ({ data := #[] } : ByteArray) = str [] from rfl]
  go_loopw [3, 4] (fun t i wr => ∃ (k : Nat) (acc : List UInt8), k ≤ s.length ∧ i = .int .i64 k ∧ t = .string (str acc) ∧ Hid (acc = fold (s.take k)) ∧ Hid (Below w.heap.size w wr)) (fun _ i _ => s.length - (intOf i).toNat)
  case atStart => exact ⟨0, [], by omega, rfl, rfl, rfl, Below.refl _ _⟩
  case round =>
    obtain ⟨k, acc, hk, rfl, rfl, H, B1⟩ := hrel
    have hal : acc.length ≤ 1000000 := by rw [H.out, fold_len, List.length_take]; omega
    by_cases hlt : k < s.length
    · have d1 : decide (k < s.length) = true := by simpa using hlt
      have H2 := Lib.hid (show acc ++ [lowC s[k]] = fold (s.take (k + 1)) by rw [H.out, fold_snoc hlt])
      have CL := Lib.hid (fun w' => c_ref04_low s[k] w')
      clear H
      go_wp2_with (fail)
      refine (CL.out _).mono ?_
      rintro e w2 ⟨rfl, hb2⟩
      have B2 := Lib.hid (B1.out.trans (hb2.mono B1.out.size))
      have hz2 := B2.out.size
      clear hb2
      go_wp2_with (fail)
      go_roundw
      case rel => exact ⟨k + 1, _, by omega, by go_num, by first | rfl | (simp; done), H2.out, B2.out.alloc hz2 _⟩
      case measure => simp [intOf]; omega
    · have d1 : decide (k < s.length) = false := by simpa using hlt
      have H2 := Lib.hid (show acc = fold s by rw [H.out, List.take_of_length_le (by omega)])
      clear hlt H
      go_wp2_with (fail)
      go_ret
      exact RetV.str H2.out B1.out
set_option maxHeartbeats 1000000 in
set_option maxRecDepth 4000 in
theorem c_value_Fold (s : List UInt8) (w : World) (hs : s.length ≤ 1000000) : Calls Tryd.prog 20 #[.string (str s)] w (RetV w (.string (str (fold s)))) := by
  go_enter Tryd.func20, Tryd.ntmps20
  go_wp2_with (with_reducible refine stop_conv 9 63 (.tmp 6) rfl rfl ?_)
  refine Stop.mk (wpList_strbytesW rfl _ _ (.tmp 6) rfl Tryd.underlying9 Tryd.underlying63 Tryd.underlying5 s rfl (by omega) ?_)
  intro c w1 hc1 hc2 hb1 hz1 hwr
  have B1 := Lib.hid hb1
  have W1 := Lib.hid hwr
  clear hb1 hwr
  go_wp2_with (fail)
  go_loopw [4, 5, 10] (fun _ _ i wr => ∃ k : Nat, k ≤ s.length ∧ i = .int .i64 k ∧ Hid (WrB wr 5 w.heap.size (foldTo s k)) ∧ Hid (Below w.heap.size w wr)) (fun _ _ i _ => s.length - (intOf i).toNat)
  case atStart => exact ⟨0, by omega, rfl, by show WrB _ _ _ _; unfold foldTo; simpa [fold] using W1.out, B1.out⟩
  case round =>
    obtain ⟨k, hk, rfl, HW, HB⟩ := hrel
    by_cases hlt : k < s.length
    · have hlen := foldTo_len s hk
      have hb0 := HW.out.lt
      have e0 := HW.out.cell (k := k) (by omega)
      rw [foldTo_get s hlt] at e0
      have f0 := HW.out.frozen (k := k) (by omega)
      have h256 := s[k].toNat_lt
      obtain ⟨x, hx⟩ : ∃ x, x = s[k] := ⟨_, rfl⟩
      rw [← hx] at e0 h256
      have HX := Lib.hid hx
      clear hx hlen
      have hk0 : (0 : Int) ≤ (k : Int) := by omega
      have hk1 : (k : Int) < (s.length : Int) := by omega
      by_cases h1 : 65 ≤ x.toNat
      · by_cases h2 : x.toNat ≤ 90
        · have d1 : decide ((65 : Int) ≤ (x.toNat : Int)) = true := by simp; omega
          have d2 : decide ((x.toNat : Int) ≤ 90) = true := by simp; omega
          have HL := Lib.hid (show (x.toNat : Int) + 97 - 65 = ((lowC x).toNat : Int) by rw [lowC_nat, if_pos ⟨h1, h2⟩]; omega)
          go_wp2_with (fail)
          go_roundw
          case rel =>
            refine ⟨k + 1, by omega, by go_num, ?_, HB.out.setCell (by simp) _⟩
            show WrB _ _ _ _
            rw [← foldTo_set s hlt, ← HX.out, HL.out]
            exact HW.out.set k _
          case measure => simp [intOf]; omega
        · have d1 : decide ((65 : Int) ≤ (x.toNat : Int)) = true := by simp; omega
          have d2 : decide ((x.toNat : Int) ≤ 90) = false := by simp; omega
          go_wp2_with (fail)
          go_roundw
          case rel =>
            refine ⟨k + 1, by omega, by go_num, ?_, HB.out⟩
            show WrB _ _ _ _
            rw [← foldTo_same s hlt (by rw [← HX.out]; unfold lowC; rw [if_neg (by omega)])]
            exact HW.out
          case measure => simp [intOf]; omega
      · have d1 : decide ((65 : Int) ≤ (x.toNat : Int)) = false := by simp; omega
        go_wp2_with (fail)
        go_roundw
        case rel =>
          refine ⟨k + 1, by omega, by go_num, ?_, HB.out⟩
          show WrB _ _ _ _
          rw [← foldTo_same s hlt (by rw [← HX.out]; unfold lowC; rw [if_neg (by omega)])]
          exact HW.out
        case measure => simp [intOf]; omega
    · obtain rfl : k = s.length := by omega
      have HS := Lib.hid (foldTo_end s)
      have hle := foldTo_len s (Nat.le_refl s.length)
      have kc := conv_str (P := Tryd.prog) wr Tryd.underlying63 Tryd.underlying5 Tryd.underlying9 (HW.out.reads (c := c) (by omega) hc2 (by omega))
      rw [hle, HS.out] at kc
      clear hlt hle
      go_wp2_with (fail)
      go_ret
      exact RetV.str rfl HB.out
end Go.Proofs.YtkofjkadmknmjaaDoor
