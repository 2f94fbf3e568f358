/-
  Lemmas (walks and plain laws), in one text.
-/
import Derived.Test.YtkofjkadmknmjaaDoorVd4
import Derived.Test.YtkofjkadmknmjaaDoorRows
import Derived.WalkKit
import Derived.WalkSpells
import Derived.WalkLawsBesides
import Derived.Lib.Hide
import Derived.Deep.QuietTactic
import Derived.BigQuiet
import Derived.Maps.AppendAt
import Derived.WalkSmall
import Derived.ProofKit
import Derived.OpenShut
import Derived.JoinedCond
import Derived.Deep.Slices
import Derived.Deep.Fields
import Derived.Carry
import Derived.Shelf.Small.Wraps
import Derived.Shelf.Utf8.RuneCount
import Derived.Shelf.Strconv.Itoa0
import Derived.Shelf.Strconv.Itoa1
import Derived.Shelf.LaysM
import Derived.Shelf.Strconv.Itoa2
import Derived.Shelf.Strconv.Itoa3
import Derived.Shelf.Strings.Search1
import Derived.Shelf.Strings.Search2
import Derived.Shelf.Strings.Search3
import Derived.Shelf.Strings.Count
import Derived.Shelf.Strings.Shaped
import Derived.Shelf.Strings.Prefix
import Derived.Shelf.Strings.Split
import Derived.Shelf.Strings.SplitShaped
import Derived.Shelf.Unicode.DecodeSlow
import Derived.Test.YtkofjkadmknmjaaDoorProg
import Derived.Deep.AppendSrc
import Derived.Lib.AppendStr
import Derived.Laws.BytesArg
import Derived.Lib.AppendIntMem
import Derived.Lib.ItoaLen
import Derived.Test.YtkofjkadmknmjaaDoorTie
import Derived.Lib.LaidTab
import Derived.LaidMore
import Derived.Stop.LaidErr
import Derived.SevenTiedAt
import Derived.HandedShaped
import Derived.Test.YtkofjkadmknmjaaDoorCards
import Derived.Deep.CutBlock
import Derived.Deep.DeepCutAuto
import Derived.Laws.IdiomStrings
import Derived.Outline
import Derived.IntWalk
import Derived.StillTail
import Derived.Laws.Tables
import Derived.Laws.Rows
import Derived.ChangeKeysEq
import Derived.Laws.StructEq
import Derived.Lib.AppendZeros
import Derived.Deep.Quiet
import Derived.OwnWalk
import Derived.Lib.TrailingZeros
import Derived.Lib.SplitLaws
import Derived.Lib.ItoaNum
import Derived.Shelf.Strings.PiecesUse
namespace Go.Proofs.YtkofjkadmknmjaaDoor
open Go.RowKit

set_option maxHeartbeats 400000 in
theorem c_isNaN_int (x : Int) (w : World) : Calls Tryd.prog 88 #[.int .i64 x] w (RetV w (.bool false)) := by
  go_enter Tryd.func88, Tryd.ntmps88
  go_wp2_with (fail)
  go_ret
  exact RetV.bool (by simp) (by repeat (first | exact Below.refl _ _ | refine Below.drew ?_ | refine Below.alloc ?_ (by first | omega | (simp; done) | (simp; omega)) _ | refine Below.setCell ?_ (by first | omega | (simp; done) | (simp; omega)) _ | refine Below.trans ?_ (Below.mono (by assumption) (by first | omega | (simp; done) | (simp; omega)))))
set_option maxHeartbeats 400000 in
theorem c_isNaN_string (s : List UInt8) (w : World) : Calls Tryd.prog 89 #[.string (str s)] w (RetV w (.bool false)) := by
  go_enter Tryd.func89, Tryd.ntmps89
  go_wp2_with (fail)
  go_ret
  exact RetV.bool (by simp) (by repeat (first | exact Below.refl _ _ | refine Below.drew ?_ | refine Below.alloc ?_ (by first | omega | (simp; done) | (simp; omega)) _ | refine Below.setCell ?_ (by first | omega | (simp; done) | (simp; omega)) _ | refine Below.trans ?_ (Below.mono (by assumption) (by first | omega | (simp; done) | (simp; omega)))))
set_option maxHeartbeats 400000 in
theorem c_cmp_int (a b : Int) (w : World) : Calls Tryd.prog 69 #[.int .i64 a, .int .i64 b] w (RetV w (.int .i64 (cmpI a b))) := by
  have hc : (a < b ∧ Hid (cmpI a b = -1)) ∨ (a = b ∧ Hid (cmpI a b = 0)) ∨ (b < a ∧ Hid (cmpI a b = 1)) := by
    rcases Int.lt_trichotomy a b with h | h | h
    · exact .inl ⟨h, cmpI_lt h⟩
    · exact .inr (.inl ⟨h, cmpI_eq h⟩)
    · exact .inr (.inr ⟨h, cmpI_gt h⟩)
  rcases hc with ⟨h, H⟩ | ⟨rfl, H⟩ | ⟨h, H⟩
  all_goals (
    go_enter Tryd.func69, Tryd.ntmps69
    go_wp2_with (fail)
    refine (c_isNaN_int _ _).mono ?_
    rintro e w1 ⟨rfl, hb1⟩
    have hz1 := hb1.size
    go_wp2_with (fail)
    refine (c_isNaN_int _ _).mono ?_
    rintro e w2 ⟨rfl, hb2⟩
    go_wp2_with (fail)
    all_goals first
      | (exfalso; omega)
      | (go_ret; exact RetV.int H.out.symm (by repeat (first | exact Below.refl _ _ | refine Below.drew ?_ | refine Below.alloc ?_ (by first | omega | (simp; done) | (simp; omega)) _ | refine Below.setCell ?_ (by first | omega | (simp; done) | (simp; omega)) _ | refine Below.trans ?_ (Below.mono (by assumption) (by first | omega | (simp; done) | (simp; omega)))))))
set_option maxHeartbeats 400000 in
theorem c_cmp_string (a b : List UInt8) (w : World) : Calls Tryd.prog 70 #[.string (str a), .string (str b)] w (RetV w (.int .i64 (cmpS a b))) := by
  have hbd := cmpS_bd a b
  have hneg := cmpS_neg a b
  have l1 := bytesLess_cmp a b
  have l2 := beq_cmp a b
  have hc : (Op.bytesLess a b = true ∧ (a == b) = false ∧ Hid (cmpS a b = -1)) ∨ (Op.bytesLess a b = false ∧ (a == b) = true ∧ Hid (cmpS a b = 0)) ∨ (Op.bytesLess a b = false ∧ (a == b) = false ∧ Hid (cmpS a b = 1)) := by
    have : cmpS a b = -1 ∨ cmpS a b = 0 ∨ cmpS a b = 1 := by omega
    rcases this with h | h | h
    · exact .inl ⟨by rw [l1, h]; rfl, by rw [l2, h]; rfl, h⟩
    · exact .inr (.inl ⟨by rw [l1, h]; rfl, by rw [l2, h]; rfl, h⟩)
    · exact .inr (.inr ⟨by rw [l1, h]; rfl, by rw [l2, h]; rfl, h⟩)
  clear hbd hneg l1 l2
  rcases hc with ⟨h1, h2, H⟩ | ⟨h1, h2, H⟩ | ⟨h1, h2, H⟩
  all_goals (
    go_enter Tryd.func70, Tryd.ntmps70
    go_wp2_with (fail)
    refine (c_isNaN_string _ _).mono ?_
    rintro e w1 ⟨rfl, hb1⟩
    have hz1 := hb1.size
    go_wp2_with (fail)
    refine (c_isNaN_string _ _).mono ?_
    rintro e w2 ⟨rfl, hb2⟩
    go_wp2_with (fail)
    go_ret
    exact RetV.int H.out.symm (by repeat (first | exact Below.refl _ _ | refine Below.drew ?_ | refine Below.alloc ?_ (by first | omega | (simp; done) | (simp; omega)) _ | refine Below.setCell ?_ (by first | omega | (simp; done) | (simp; omega)) _ | refine Below.trans ?_ (Below.mono (by assumption) (by first | omega | (simp; done) | (simp; omega))))))
set_option maxHeartbeats 1000000 in
theorem c_value_Compare (x y : Val) (w : World) : Calls Tryd.prog 16 #[x.val, y.val] w (RetV w (.int .i64 (x.cmp y))) := by
  unfold Val.val
  by_cases h1 : cmpI x.kind y.kind = 0
  · have b1 : (cmpI x.kind y.kind != 0) = false := by simpa using h1
    by_cases h2 : cmpI x.n y.n = 0
    · have b2 : (cmpI x.n y.n != 0) = false := by simpa using h2
      have H : Hid (cmpS x.s y.s = x.cmp y) := by show _ = _; unfold Val.cmp; rw [if_neg (by simpa using h1), if_neg (by simpa using h2)]
      clear h1 h2
      go_enter Tryd.func16, Tryd.ntmps16
      go_wp2_with (fail)
      refine (c_cmp_int _ _ _).mono ?_
      rintro e w1 ⟨rfl, hb1⟩
      have hz1 := hb1.size
      simp only [World.size_alloc] at hz1
      have q1 := fun o => hb1.cell (p := ⟨w.heap.size, o, none⟩) (by simp; omega)
      have r1 := fun o => hb1.cell (p := ⟨w.heap.size + 1, o, none⟩) (by simp)
      go_wp2_with (fail)
      refine (c_cmp_int _ _ _).mono ?_
      rintro e w2 ⟨rfl, hb2⟩
      have hz2 := hb2.size
      have q2 := fun o => hb2.cell (p := ⟨w.heap.size, o, none⟩) (by show w.heap.size < _; omega)
      have r2 := fun o => hb2.cell (p := ⟨w.heap.size + 1, o, none⟩) (by show w.heap.size + 1 < _; omega)
      go_wp2_with (fail)
      refine (c_cmp_string _ _ _).mono ?_
      rintro e w3 ⟨rfl, hb3⟩
      go_wp2_with (fail)
      go_ret
      exact RetV.int H.out (by repeat (first | exact Below.refl _ _ | refine Below.drew ?_ | refine Below.alloc ?_ (by first | omega | (simp; done) | (simp; omega)) _ | refine Below.setCell ?_ (by first | omega | (simp; done) | (simp; omega)) _ | refine Below.trans ?_ (Below.mono (by assumption) (by first | omega | (simp; done) | (simp; omega)))))
    · have b2 : (cmpI x.n y.n != 0) = true := by simpa using h2
      have H : Hid (cmpI x.n y.n = x.cmp y) := by show _ = _; unfold Val.cmp; rw [if_neg (by simpa using h1), if_pos h2]
      clear h1 h2
      go_enter Tryd.func16, Tryd.ntmps16
      go_wp2_with (fail)
      refine (c_cmp_int _ _ _).mono ?_
      rintro e w1 ⟨rfl, hb1⟩
      have hz1 := hb1.size
      simp only [World.size_alloc] at hz1
      have q1 := fun o => hb1.cell (p := ⟨w.heap.size, o, none⟩) (by simp; omega)
      have r1 := fun o => hb1.cell (p := ⟨w.heap.size + 1, o, none⟩) (by simp)
      go_wp2_with (fail)
      refine (c_cmp_int _ _ _).mono ?_
      rintro e w2 ⟨rfl, hb2⟩
      go_wp2_with (fail)
      go_ret
      exact RetV.int H.out (by repeat (first | exact Below.refl _ _ | refine Below.drew ?_ | refine Below.alloc ?_ (by first | omega | (simp; done) | (simp; omega)) _ | refine Below.setCell ?_ (by first | omega | (simp; done) | (simp; omega)) _ | refine Below.trans ?_ (Below.mono (by assumption) (by first | omega | (simp; done) | (simp; omega)))))
  · have b1 : (cmpI x.kind y.kind != 0) = true := by simpa using h1
    have H : Hid (cmpI x.kind y.kind = x.cmp y) := by show _ = _; unfold Val.cmp; rw [if_pos h1]
    clear h1
    go_enter Tryd.func16, Tryd.ntmps16
    go_wp2_with (fail)
    refine (c_cmp_int _ _ _).mono ?_
    rintro e w1 ⟨rfl, hb1⟩
    go_wp2_with (fail)
    go_ret
    exact RetV.int H.out (by repeat (first | exact Below.refl _ _ | refine Below.drew ?_ | refine Below.alloc ?_ (by first | omega | (simp; done) | (simp; omega)) _ | refine Below.setCell ?_ (by first | omega | (simp; done) | (simp; omega)) _ | refine Below.trans ?_ (Below.mono (by assumption) (by first | omega | (simp; done) | (simp; omega)))))
end Go.Proofs.YtkofjkadmknmjaaDoor
namespace Go.Proofs.YtkofjkadmknmjaaDoor

theorem cmpI_trans {a b c : Int} (h1 : cmpI a b = -1) (h2 : cmpI b c = -1) : cmpI a c = -1 := by
  have e : ∀ x y : Int, cmpI x y = -1 → x < y := by
    intro x y h
    rcases Int.lt_trichotomy x y with g | g | g
    · exact g
    · rw [cmpI_eq g] at h; cases h
    · rw [cmpI_gt g] at h; cases h
  exact cmpI_lt (Int.lt_trans (e _ _ h1) (e _ _ h2))
theorem cmpS_trans : ∀ a b c, cmpS a b = -1 → cmpS b c = -1 → cmpS a c = -1
  | [], [], _, h, _ => by cases h
  | _ :: _, [], _, h, _ => by cases h
  | [], _ :: _, [], _, h => by cases h
  | _ :: _, _ :: _, [], _, h => by cases h
  | [], _ :: _, _ :: _, _, _ => rfl
  | x :: a, y :: b, z :: c, h1, h2 => by
    unfold cmpS at h1 h2 ⊢
    by_cases hxy : x.toNat < y.toNat
    · by_cases hyz : y.toNat < z.toNat
      · rw [if_pos (by omega)]
      · rw [if_neg hyz] at h2
        by_cases hzy : z.toNat < y.toNat
        · rw [if_pos hzy] at h2; cases h2
        · rw [if_pos (by omega)]
    · rw [if_neg hxy] at h1
      by_cases hyx : y.toNat < x.toNat
      · rw [if_pos hyx] at h1; cases h1
      · rw [if_neg hyx] at h1
        by_cases hyz : y.toNat < z.toNat
        · rw [if_pos (by omega)]
        · rw [if_neg hyz] at h2
          by_cases hzy : z.toNat < y.toNat
          · rw [if_pos hzy] at h2; cases h2
          · rw [if_neg hzy] at h2
            rw [if_neg (by omega), if_neg (by omega)]
            exact cmpS_trans a b c h1 h2
theorem Val.cmp_trans {a b c : Val} (h1 : a.cmp b = -1) (h2 : b.cmp c = -1) : a.cmp c = -1 := by
  unfold Val.cmp at *
  by_cases k1 : cmpI a.kind b.kind = 0
  · rw [if_neg (by simpa using k1)] at h1
    have e1 := cmpI_zero.1 k1
    rw [← e1] at h2
    by_cases k2 : cmpI a.kind c.kind = 0
    · rw [if_neg (by simpa using k2)] at h2 ⊢
      by_cases n1 : cmpI a.n b.n = 0
      · rw [if_neg (by simpa using n1)] at h1
        have e2 := cmpI_zero.1 n1
        rw [← e2] at h2
        by_cases n2 : cmpI a.n c.n = 0
        · rw [if_neg (by simpa using n2)] at h2 ⊢
          exact cmpS_trans _ _ _ h1 h2
        · rw [if_pos n2] at h2 ⊢; exact h2
      · rw [if_pos n1] at h1
        by_cases n2 : cmpI b.n c.n = 0
        · have e2 := cmpI_zero.1 n2
          rw [← e2, if_pos n1]; exact h1
        · rw [if_pos n2] at h2
          have := cmpI_trans h1 h2
          rw [if_pos (by rw [this]; decide)]; exact this
    · rw [if_pos k2] at h2 ⊢; exact h2
  · rw [if_pos k1] at h1
    by_cases k2 : cmpI b.kind c.kind = 0
    · have e1 := cmpI_zero.1 k2
      rw [← e1, if_pos k1]; exact h1
    · rw [if_pos k2] at h2
      have := cmpI_trans h1 h2
      rw [if_pos (by rw [this]; decide)]; exact this
/-- Is a value less than another one of its kind? -/
def Val.less (a b : Val) : Bool := decide (a.kind = b.kind) && (decide (a.kind = 1) || decide (a.kind = 2)) && decide (a.cmp b < 0)
theorem Val.cmp_lt {a b : Val} : a.cmp b < 0 ↔ a.cmp b = -1 := by
  have := Val.cmp_bd a b
  omega
theorem Val.less_trans {a b c : Val} (h1 : a.less b = true) (h2 : b.less c = true) : a.less c = true := by
  unfold Val.less at *
  simp only [Bool.and_eq_true, Bool.or_eq_true, decide_eq_true_eq] at *
  refine ⟨⟨by rw [h1.1.1]; exact h2.1.1, h1.1.2⟩, ?_⟩
  exact Val.cmp_lt.2 (Val.cmp_trans (Val.cmp_lt.1 h1.2) (Val.cmp_lt.1 h2.2))
theorem Val.less_self (a : Val) : a.less a = false := by
  unfold Val.less
  rw [Val.cmp_self]; simp
theorem Val.less_asym {a b : Val} (h : a.less b = true) : b.less a = false := by
  unfold Val.less at *
  simp only [Bool.and_eq_true, decide_eq_true_eq] at h
  have := Val.cmp_neg a b
  rw [decide_eq_false (p := b.cmp a < 0) (by omega)]; simp
/-! Letters made small. -/
def lowC (c : UInt8) : UInt8 := if 65 ≤ c.toNat ∧ c.toNat ≤ 90 then UInt8.ofNat (c.toNat + 32) else c
def fold (s : List UInt8) : List UInt8 := s.map lowC
theorem fold_len (s : List UInt8) : (fold s).length = s.length := by unfold fold; simp
end Go.Proofs.YtkofjkadmknmjaaDoor
namespace Go.Proofs.YtkofjkadmknmjaaDoor
open Go.RowKit

theorem Val.less_no {a b : Val} (h : ¬ (a.kind = b.kind ∧ (a.kind = 1 ∨ a.kind = 2))) : a.less b = false := by
  unfold Val.less
  rw [Bool.and_eq_false_iff]
  left
  rw [Bool.and_eq_false_iff, Bool.or_eq_false_iff]
  simp only [decide_eq_false_iff_not]
  omega
theorem Val.less_yes {a b : Val} (h : a.kind = b.kind ∧ (a.kind = 1 ∨ a.kind = 2)) : a.less b = decide (a.cmp b < 0) := by
  unfold Val.less
  have h1 : decide (a.kind = b.kind) = true := by simpa using h.1
  have h2 : (decide (a.kind = 1) || decide (a.kind = 2)) = true := by simpa using h.2
  rw [h1, h2]; rfl
set_option maxHeartbeats 1000000 in
theorem c_value_Less (x y : Val) (w : World) : Calls Tryd.prog 18 #[x.val, y.val] w (RetV w (.bool (x.less y))) := by
  have CC := Lib.hid (fun w' => c_value_Compare x y w')
  unfold Val.val at CC ⊢
  by_cases h : x.kind = y.kind ∧ (x.kind = 1 ∨ x.kind = 2)
  · have H := Lib.hid (Val.less_yes h)
    have j1 : (x.kind != y.kind) = false := by simpa using h.1
    rcases h.2 with g | g
    · have j2 : (x.kind != 1) = false := by simpa using g
      clear h g
      go_enter Tryd.func18, Tryd.ntmps18
      go_wp2_with (fail)
      refine (CC.out _).mono ?_
      rintro e w1 ⟨rfl, hb1⟩
      go_wp2_with (fail)
      go_ret
      exact RetV.bool H.out.symm (by repeat (first | exact Below.refl _ _ | refine Below.drew ?_ | refine Below.alloc ?_ (by first | omega | (simp; done) | (simp; omega)) _ | refine Below.setCell ?_ (by first | omega | (simp; done) | (simp; omega)) _ | refine Below.trans ?_ (Below.mono (by assumption) (by first | omega | (simp; done) | (simp; omega)))))
    · have j2 : (x.kind != 1) = true := by simp; omega
      have j3 : (x.kind != 2) = false := by simpa using g
      clear h g
      go_enter Tryd.func18, Tryd.ntmps18
      go_wp2_with (fail)
      refine (CC.out _).mono ?_
      rintro e w1 ⟨rfl, hb1⟩
      go_wp2_with (fail)
      go_ret
      exact RetV.bool H.out.symm (by repeat (first | exact Below.refl _ _ | refine Below.drew ?_ | refine Below.alloc ?_ (by first | omega | (simp; done) | (simp; omega)) _ | refine Below.setCell ?_ (by first | omega | (simp; done) | (simp; omega)) _ | refine Below.trans ?_ (Below.mono (by assumption) (by first | omega | (simp; done) | (simp; omega)))))
  · rw [Val.less_no h]
    by_cases h1 : x.kind = y.kind
    · have j1 : (x.kind != y.kind) = false := by simpa using h1
      have j2 : (x.kind != 1) = true := by simp; omega
      have j3 : (x.kind != 2) = true := by simp; omega
      clear h h1
      go_enter Tryd.func18, Tryd.ntmps18
      go_wp2_with (fail)
      go_ret
      exact RetV.bool rfl (by repeat (first | exact Below.refl _ _ | refine Below.drew ?_ | refine Below.alloc ?_ (by first | omega | (simp; done) | (simp; omega)) _ | refine Below.setCell ?_ (by first | omega | (simp; done) | (simp; omega)) _ | refine Below.trans ?_ (Below.mono (by assumption) (by first | omega | (simp; done) | (simp; omega)))))
    · have j1 : (x.kind != y.kind) = true := by simpa using h1
      clear h h1
      go_enter Tryd.func18, Tryd.ntmps18
      go_wp2_with (fail)
      go_ret
      exact RetV.bool rfl (by repeat (first | exact Below.refl _ _ | refine Below.drew ?_ | refine Below.alloc ?_ (by first | omega | (simp; done) | (simp; omega)) _ | refine Below.setCell ?_ (by first | omega | (simp; done) | (simp; omega)) _ | refine Below.trans ?_ (Below.mono (by assumption) (by first | omega | (simp; done) | (simp; omega)))))
theorem lowC_nat (c : UInt8) : ((lowC c).toNat : Int) = if 65 ≤ c.toNat ∧ c.toNat ≤ 90 then (c.toNat : Int) + 32 else c.toNat := by
  unfold lowC
  have := c.toNat_lt
  split
  · rw [UInt8.toNat_ofNat']; omega
  · rfl
end Go.Proofs.YtkofjkadmknmjaaDoor
namespace Go.Proofs.YtkofjkadmknmjaaDoor
open Go.RowKit

/-- Bytes in a block that may be written. -/
def WrB (W : World) (e : TypeId) (b : Nat) (l : List UInt8) : Prop :=
  ∃ cs lo hi, W.heap[b]? = some (.cells cs e (lo, hi)) ∧ l.length ≤ lo ∧ ∀ i (h : i < l.length), cs[i]? = some (.int .u8 l[i].toNat)
theorem WrB.lt {W : World} {e : TypeId} {b : Nat} {l : List UInt8} (h : WrB W e b l) : b < W.heap.size := by
  obtain ⟨cs, lo, hi, h1, _⟩ := h
  exact (Array.getElem?_eq_some_iff.1 h1).1
theorem WrB.cell {W : World} {e : TypeId} {b : Nat} {l : List UInt8} (h : WrB W e b l) {k : Nat} (hk : k < l.length) : W.cell? ⟨b, k, none⟩ = some (.int .u8 l[k].toNat) := by
  obtain ⟨cs, lo, hi, h1, _, h3⟩ := h
  have := h3 k hk
  simp [World.cell?, h1, this]
theorem WrB.frozen {W : World} {e : TypeId} {b : Nat} {l : List UInt8} (h : WrB W e b l) {k : Nat} (hk : k < l.length) : W.frozen? ⟨b, k, none⟩ = false := by
  obtain ⟨cs, lo, hi, h1, h2, _⟩ := h
  simp [World.frozen?, h1]
  omega
theorem WrB.set {W : World} {e : TypeId} {b : Nat} {l : List UInt8} (h : WrB W e b l) (k : Nat) (x : UInt8) : WrB (W.setCell ⟨b, k, none⟩ (.int .u8 x.toNat)) e b (l.set k x) := by
  have hlt := h.lt
  obtain ⟨cs, lo, hi, h1, h2, h3⟩ := h
  have he : (W.setCell ⟨b, k, none⟩ (.int .u8 x.toNat)).heap[b]? = some (.cells (cs.setIfInBounds k (.int .u8 x.toNat)) e (lo, hi)) := by
    show (W.heap.modify b _)[b]? = _
    rw [Array.getElem?_eq_getElem (by rw [Array.size_modify]; exact hlt), Array.getElem_modify_self]
    rw [Array.getElem?_eq_getElem hlt] at h1
    injection h1 with h1
    rw [h1]; rfl
  refine ⟨_, lo, hi, he, by rw [List.length_set]; exact h2, fun i hi => ?_⟩
  rw [List.length_set] at hi
  have := h3 i hi
  rw [Array.getElem?_setIfInBounds]
  by_cases hik : k = i
  · subst hik
    rw [if_pos rfl, if_pos (Array.getElem?_eq_some_iff.1 this).1, List.getElem_set_self]
  · rw [if_neg hik, this, List.getElem_set_ne hik]
theorem WrB.below {W W' : World} {e : TypeId} {b : Nat} {l : List UInt8} (h : WrB W e b l) (hb : Below W.heap.size W W') : WrB W' e b l := by
  have hlt := h.lt
  obtain ⟨cs, lo, hi, h1, h2⟩ := h
  exact ⟨cs, lo, hi, (hb.block b hlt).trans h1, h2⟩
theorem WrB.reads {W : World} {e : TypeId} {b c : Nat} {l : List UInt8} (h : WrB W e b l) (h1 : l.length ≤ c) (h2 : c ≤ 9223372036854775807) (h3 : l.length ≤ 4294967296) : InB W (some ⟨b, 0, none⟩) c l := by
  refine ⟨h1, h2, h3, .inr ⟨b, 0, rfl, h.lt, fun i hi j u hu => ?_⟩⟩
  have hj : j < 1 := (List.getElem?_eq_some_iff.1 hu).1
  have h0 : j = 0 := by omega
  subst h0
  simp only [bc, List.getElem?_cons_zero, Option.some.injEq] at hu
  rw [show 0 + i * 1 + 0 = i by omega, ← hu]
  exact h.cell hi
theorem wpList_strbytesW {P : Program} {w : World} {ops : Array Oper} {rest : List Oper} {o : Oper} {a : Act} {Q : Exit → Act → World → Prop} (hgd : o.guard = none) (src dst : TypeId) (x : Operand) (ho : o.op = .convert src dst x)
    {e : TypeId} (hs : P.underlying src = some .string) (hd : P.underlying dst = some (.slice e)) (he : P.underlying e = some (.int .u8)) (l : List UInt8) (hx : a.eval x = .string (str l)) (hl : l.length ≤ 4294967296)
    (h : ∀ c w', l.length ≤ c → c ≤ 9223372036854775807 → Below w.heap.size w w' → w'.heap.size = w.heap.size + 1 → WrB w' e w.heap.size l → wpList P ops Q rest (a.put o.dst (.slice (some ⟨w.heap.size, 0, none⟩) l.length c)) w') : wpList P ops Q (o :: rest) a w := by
  refine wpList_plain hgd fun K hK => ?_
  have hrun := run_bytes_of_string (P := P) w src dst e (str l) hs hd he
  have hge := grownCap_ge w (str l).size 0 e
  have hcm := grownCap_le_maxLen w (str l).size 0 e (by rw [str_size]; unfold maxLen; omega)
  rw [str_size] at hrun hge hcm
  unfold Oper.wp execOp
  simp only [ho, hx, hrun, Sem.run_bind, Sem.run_pure, Result.andThen_ok]
  refine hK _ _ (h _ _ hge (by unfold maxLen at hcm; omega) (((Below.refl _ _).drew).alloc (Nat.le_refl _) _) (World.size_alloc _ _) ⟨_, _, _, heap_alloc_new w.drew _, ?_, fun i hi => ?_⟩)
  · have e : (bytesRow (str l) (grownCap w l.length 0 e)).size = l.length + (grownCap w l.length 0 e - l.length) := by
      unfold bytesRow
      rw [Array.size_append, Array.size_map, Array.size_replicate, str_size]
      show l.toArray.size + _ = _
      simp
    omega
  · have hb := bytesRow_at (str l) (grownCap w l.length 0 e) i (by show i < l.toArray.size; simpa using hi)
    rw [hb]
    rfl
theorem fold_snoc {s : List UInt8} {k : Nat} (hk : k < s.length) : fold (s.take (k + 1)) = fold (s.take k) ++ [lowC s[k]] := by
  unfold fold
  rw [List.take_succ_eq_append_getElem hk, List.map_append]; rfl
/-- A text of which the first bytes have been made small. -/
def foldTo (s : List UInt8) (k : Nat) : List UInt8 := fold (s.take k) ++ s.drop k
theorem foldTo_len (s : List UInt8) {k : Nat} (hk : k ≤ s.length) : (foldTo s k).length = s.length := by unfold foldTo; rw [List.length_append, fold_len, List.length_take, List.length_drop]; omega
theorem foldTo_get (s : List UInt8) {k : Nat} (hk : k < s.length) : (foldTo s k)[k]'(by rw [foldTo_len s (by omega)]; exact hk) = s[k] := by
  unfold foldTo
  rw [List.getElem_append_right (by rw [fold_len, List.length_take]; omega)]
  simp [fold_len, List.length_take, Nat.min_eq_left (Nat.le_of_lt hk)]
theorem foldTo_set (s : List UInt8) {k : Nat} (hk : k < s.length) : (foldTo s k).set k (lowC s[k]) = foldTo s (k + 1) := by
  unfold foldTo
  have hl : (fold (s.take k)).length = k := by rw [fold_len, List.length_take]; omega
  rw [List.set_append_right _ _ (by omega), hl, Nat.sub_self, List.drop_eq_getElem_cons hk, List.set_cons_zero, fold_snoc hk, List.append_assoc]; rfl
theorem foldTo_same (s : List UInt8) {k : Nat} (hk : k < s.length) (h : lowC s[k] = s[k]) : foldTo s k = foldTo s (k + 1) := by
  unfold foldTo
  rw [List.drop_eq_getElem_cons hk, fold_snoc hk, h, List.append_assoc]; rfl
theorem foldTo_end (s : List UInt8) : foldTo s s.length = fold s := by unfold foldTo; rw [List.take_length, List.drop_length, List.append_nil]
set_option maxHeartbeats 1000000 in
set_option maxRecDepth 4000 in
theorem c_value_Fold (s : List UInt8) (w : World) (hs : s.length ≤ 1000000) : Calls Tryd.prog 20 #[.string (str s)] w (RetV w (.string (str (fold s)))) := by
  go_enter Tryd.func20, Tryd.ntmps20
  go_wp2_with (with_reducible refine stop_conv 9 63 (.tmp 6) rfl rfl ?_)
  refine Stop.mk (wpList_strbytesW rfl _ _ (.tmp 6) rfl Tryd.underlying9 Tryd.underlying63 Tryd.underlying5 s rfl (by omega) ?_)
  intro c w1 hc1 hc2 hb1 hz1 hwr
  have B1 := Lib.hid hb1
  have W1 := Lib.hid hwr
  clear hb1 hwr
  go_wp2_with (fail)
  go_loopw [4, 5, 10] (fun _ _ i wr => ∃ k : Nat, k ≤ s.length ∧ i = .int .i64 k ∧ Hid (WrB wr 5 w.heap.size (foldTo s k)) ∧ Hid (Below w.heap.size w wr)) (fun _ _ i _ => s.length - (intOf i).toNat)
  case atStart => exact ⟨0, by omega, rfl, by show WrB _ _ _ _; unfold foldTo; simpa [fold] using W1.out, B1.out⟩
  case round =>
    obtain ⟨k, hk, rfl, HW, HB⟩ := hrel
    by_cases hlt : k < s.length
    · have hlen := foldTo_len s hk
      have hb0 := HW.out.lt
      have e0 := HW.out.cell (k := k) (by omega)
      rw [foldTo_get s hlt] at e0
      have f0 := HW.out.frozen (k := k) (by omega)
      have h256 := s[k].toNat_lt
      obtain ⟨x, hx⟩ : ∃ x, x = s[k] := ⟨_, rfl⟩
      rw [← hx] at e0 h256
      have HX := Lib.hid hx
      clear hx hlen
      have hk0 : (0 : Int) ≤ (k : Int) := by omega
      have hk1 : (k : Int) < (s.length : Int) := by omega
      by_cases h1 : 65 ≤ x.toNat
      · by_cases h2 : x.toNat ≤ 90
        · have d1 : decide ((65 : Int) ≤ (x.toNat : Int)) = true := by simp; omega
          have d2 : decide ((x.toNat : Int) ≤ 90) = true := by simp; omega
          have HL := Lib.hid (show (x.toNat : Int) + 97 - 65 = ((lowC x).toNat : Int) by rw [lowC_nat, if_pos ⟨h1, h2⟩]; omega)
          go_wp2_with (fail)
          go_roundw
          case rel =>
            refine ⟨k + 1, by omega, by go_num, ?_, HB.out.setCell (by simp) _⟩
            show WrB _ _ _ _
            rw [← foldTo_set s hlt, ← HX.out, HL.out]
            exact HW.out.set k _
          case measure => simp [intOf]; omega
        · have d1 : decide ((65 : Int) ≤ (x.toNat : Int)) = true := by simp; omega
          have d2 : decide ((x.toNat : Int) ≤ 90) = false := by simp; omega
          go_wp2_with (fail)
          go_roundw
          case rel =>
            refine ⟨k + 1, by omega, by go_num, ?_, HB.out⟩
            show WrB _ _ _ _
            rw [← foldTo_same s hlt (by rw [← HX.out]; unfold lowC; rw [if_neg (by omega)])]
            exact HW.out
          case measure => simp [intOf]; omega
      · have d1 : decide ((65 : Int) ≤ (x.toNat : Int)) = false := by simp; omega
        go_wp2_with (fail)
        go_roundw
        case rel =>
          refine ⟨k + 1, by omega, by go_num, ?_, HB.out⟩
          show WrB _ _ _ _
          rw [← foldTo_same s hlt (by rw [← HX.out]; unfold lowC; rw [if_neg (by omega)])]
          exact HW.out
        case measure => simp [intOf]; omega
    · obtain rfl : k = s.length := by omega
      have HS := Lib.hid (foldTo_end s)
      have hle := foldTo_len s (Nat.le_refl s.length)
      have kc := conv_str (P := Tryd.prog) wr Tryd.underlying63 Tryd.underlying5 Tryd.underlying9 (HW.out.reads (c := c) (by omega) hc2 (by omega))
      rw [hle, HS.out] at kc
      clear hlt hle
      go_wp2_with (fail)
      go_ret
      exact RetV.str rfl HB.out
end Go.Proofs.YtkofjkadmknmjaaDoor
