/-
  Lemmas (walks and plain laws), in one text.
-/
import Derived.Test.YtjhndilflcigiaaDoorQc6
import Derived.Test.YtjhndilflcigiaaDoorRows
import Derived.WalkKit
import Derived.WalkSpells
import Derived.WalkLawsBesides
import Derived.Lib.Hide
import Derived.Deep.QuietTactic
import Derived.BigQuiet
import Derived.Maps.AppendAt
import Derived.WalkSmall
import Derived.ProofKit
import Derived.OpenShut
import Derived.JoinedCond
import Derived.Deep.Slices
import Derived.Deep.Fields
import Derived.Carry
import Derived.Deep.AppendSrc
import Derived.Lib.AppendStr
import Derived.Laws.BytesArg
import Derived.Test.YtjhndilflcigiaaDoorProg
import Derived.Shelf.Spec.TrailingZeros
import Derived.RangeFuncNested
import Derived.RangeFuncBound
import Derived.RangeFuncCalls
import Derived.RangeFuncLeaves
import Derived.Shelf.Abstract
import Derived.Shelf.RegionOpen
import Derived.OwnWalkIn
import Derived.TacticsInMore
import Derived.LoopNIn
import Derived.LoopIn
import Derived.Test.YtjhndilflcigiaaDoorTie
import Derived.Lib.LaidTab
import Derived.LaidMore
import Derived.SevenTiedAt
import Derived.Test.YtjhndilflcigiaaDoorCards
import Derived.Laws.Tables
import Derived.Laws.Rows
import Derived.ChangeKeysEq
import Derived.Laws.StructEq
import Derived.Deep.CutBlock
import Derived.Deep.DeepCutAuto
import Derived.Laws.CopyOwn
import Derived.Outline
import Derived.IntWalk
import Derived.Lib.EndianBits
import Derived.StillTail
import Derived.Lib.AppendZeros
import Derived.Deep.Quiet
import Derived.Maps.Own
import Derived.WalkMore
namespace Go.Proofs.YtjhndilflcigiaaDoor
open Go.RowKit

/-- A value off bytes, and what the reader is then. -/
def rdVal' (st : Rd) : Rd := if rdN st 2 = 1 then rdN' (rdN' st 2) 1099511627776 else if rdN st 2 = 2 then rdS' (rdN' st 2) 24 else rdN' st 2
def rdVal (st : Rd) : Val := if (rdVal' st).e = 0 then ⟨rdN st 2, if rdN st 2 = 1 then rdN (rdN' st 2) 1099511627776 else 0, if rdN st 2 = 2 then rdS (rdN' st 2) 24 else []⟩ else ⟨0, 0, []⟩
theorem rdVal_bad {st : Rd} (h : (rdVal' st).e ≠ 0) : rdVal st = ⟨0, 0, []⟩ := by unfold rdVal; rw [if_neg h]
theorem rdVal_1 {st : Rd} (h : (rdVal' st).e = 0) (h1 : rdN st 2 = 1) : rdVal st = ⟨1, rdN (rdN' st 2) 1099511627776, []⟩ := by unfold rdVal; rw [if_pos h, h1]; rfl
theorem rdVal_2 {st : Rd} (h : (rdVal' st).e = 0) (h1 : rdN st 2 = 2) : rdVal st = ⟨2, 0, rdS (rdN' st 2) 24⟩ := by unfold rdVal; rw [if_pos h, h1]; rfl
theorem rdVal_0 {st : Rd} (h : (rdVal' st).e = 0) (h1 : rdN st 2 = 0) : rdVal st = ⟨0, 0, []⟩ := by unfold rdVal; rw [if_pos h, h1]; rfl
theorem rdVal'_1 {st : Rd} (h1 : rdN st 2 = 1) : rdVal' st = rdN' (rdN' st 2) 1099511627776 := by unfold rdVal'; rw [if_pos h1]
theorem rdVal'_2 {st : Rd} (h1 : rdN st 2 = 2) : rdVal' st = rdS' (rdN' st 2) 24 := by unfold rdVal'; rw [if_neg (by omega), if_pos h1]
theorem rdVal'_0 {st : Rd} (h1 : rdN st 2 = 0) : rdVal' st = rdN' st 2 := by unfold rdVal'; rw [if_neg (by omega), if_neg (by omega)]
theorem rdN2_cases (st : Rd) : rdN st 2 = 0 ∨ rdN st 2 = 1 ∨ rdN st 2 = 2 := by have := rdN_bd st 2; omega
theorem rdF_bad (st : Rd) {e : Int} (h : e ≠ 0) : (rdF st e).e ≠ 0 := by unfold rdF; split <;> assumption
theorem rdN_ok {st : Rd} {most : Int} (h : rdN st most ≠ 0) : st.e = 0 ∧ (rdN' st most).e = 0 := by
  refine ⟨?_, ?_⟩
  · by_cases h0 : st.e = 0
    · exact h0
    · exact absurd (rdN_err h0).1 h
  · by_cases h0 : (rdN' st most).e = 0
    · exact h0
    · exact absurd (rdN_err' h0) h
theorem Val.none_eq {x : Val} (h : x.none = true) : x = ⟨0, 0, []⟩ := by
  obtain ⟨k, n, s⟩ := x
  simp only [Val.none, Bool.and_eq_true, decide_eq_true_eq, List.isEmpty_iff] at h
  obtain ⟨⟨rfl, rfl⟩, rfl⟩ := h
  rfl
theorem Val.ok_0 {x : Val} (h : x.ok = true) (hk : x.kind = 0) : x = ⟨0, 0, []⟩ := Val.none_eq (by rw [Val.none_kind h]; simpa using hk)
theorem Val.ok_1 {x : Val} (h : x.ok = true) (hk : x.kind = 1) : 0 ≤ x.n ∧ x.n ≤ 1099511627776 ∧ x.s = [] := by
  unfold Val.ok at h
  rw [if_neg (by omega), if_pos hk] at h
  simp only [Bool.and_eq_true, decide_eq_true_eq, List.isEmpty_iff] at h
  exact ⟨h.1.1, h.1.2, h.2⟩
theorem Val.ok_2 {x : Val} (h : x.ok = true) (hk : x.kind = 2) : x.n = 0 ∧ x.s.length ≤ 24 := by
  unfold Val.ok at h
  rw [if_neg (by omega), if_neg (by omega), if_pos hk] at h
  simp only [Bool.and_eq_true, decide_eq_true_eq] at h
  exact h
theorem Val.ok_kinds {x : Val} (h : x.ok = true) : x.kind = 0 ∨ x.kind = 1 ∨ x.kind = 2 := by
  unfold Val.ok at h
  by_cases h0 : x.kind = 0
  · exact .inl h0
  · by_cases h1 : x.kind = 1
    · exact .inr (.inl h1)
    · by_cases h2 : x.kind = 2
      · exact .inr (.inr h2)
      · simp [h0, h1, h2] at h
/-- A value that may be is read of its bytes. -/
theorem rdVal_put {x : Val} (h : x.ok = true) (r : List UInt8) : rdVal ⟨valB x ++ r, 0⟩ = x ∧ rdVal' ⟨valB x ++ r, 0⟩ = ⟨r, 0⟩ := by
  obtain ⟨k, n, s⟩ := x
  rcases Val.ok_kinds h with hk | hk | hk
  · have e := Val.ok_0 h hk
    obtain rfl : k = 0 := hk
    rw [valB_0 h rfl]
    obtain ⟨h1, h2⟩ := rdN_num (n := 0) (most := 2) r (by omega) (by omega) (by omega)
    have h3 : rdVal' ⟨num 0 ++ r, 0⟩ = ⟨r, 0⟩ := by rw [rdVal'_0 h1, h2]
    exact ⟨by rw [rdVal_0 (by rw [h3]) h1, e], h3⟩
  · obtain ⟨e1, e2, e3⟩ := Val.ok_1 h hk
    simp only at e1 e2 e3
    obtain rfl : k = 1 := hk
    subst e3
    rw [valB_1 h rfl, List.append_assoc]
    obtain ⟨h1, h2⟩ := rdN_num (n := 1) (most := 2) (num n ++ r) (by omega) (by omega) (by omega)
    obtain ⟨h3, h4⟩ := rdN_num (n := n) (most := 1099511627776) r e1 e2 e2
    have h5 : rdVal' ⟨num 1 ++ (num n ++ r), 0⟩ = ⟨r, 0⟩ := by rw [rdVal'_1 h1, h2, h4]
    exact ⟨by rw [rdVal_1 (by rw [h5]) h1, h2, h3], h5⟩
  · obtain ⟨e1, e2⟩ := Val.ok_2 h hk
    simp only at e1 e2
    obtain rfl : k = 2 := hk
    subst e1
    rw [valB_2 h rfl, List.append_assoc]
    obtain ⟨h1, h2⟩ := rdN_num (n := 2) (most := 2) (strB s ++ r) (by omega) (by omega) (by omega)
    obtain ⟨h3, h4⟩ := rdS_str (s := s) (most := 24) r (by omega) (by omega)
    have h5 : rdVal' ⟨num 2 ++ (strB s ++ r), 0⟩ = ⟨r, 0⟩ := by rw [rdVal'_2 h1, h2, h4]
    exact ⟨by rw [rdVal_2 (by rw [h5]) h1, h2, h3], h5⟩
/-- What was taken for a value is its bytes, and it may be. -/
theorem rdVal_took {st : Rd} (h : (rdVal' st).e = 0) : st.e = 0 ∧ (rdVal st).ok = true ∧ st.s = valB (rdVal st) ++ (rdVal' st).s := by
  rcases rdN2_cases st with h0 | h0 | h0
  · have h1 := rdVal'_0 h0
    have h' := h
    rw [h1] at h'
    obtain ⟨e, u, e1, e2, _⟩ := rdN_took h'
    have hv := rdVal_0 h h0
    have hok : (⟨0, 0, []⟩ : Val).ok = true := by decide
    rw [hv, h1, valB_0 hok rfl]
    exact ⟨e, hok, by rw [e1, e2, h0]⟩
  · have h1 := rdVal'_1 h0
    have h' := h
    rw [h1] at h'
    obtain ⟨e, u, e1, e2, _⟩ := rdN_took h'
    obtain ⟨f, u', f1, f2, _⟩ := rdN_took e
    have hb := rdN_bd (rdN' st 2) 1099511627776
    have hv := rdVal_1 h h0
    have hok : (⟨1, rdN (rdN' st 2) 1099511627776, []⟩ : Val).ok = true := by simp [Val.ok]; omega
    rw [hv, h1, valB_1 hok rfl]
    exact ⟨f, hok, by rw [f1, f2, e1, e2, h0]; simp⟩
  · have h1 := rdVal'_2 h0
    have h' := h
    rw [h1] at h'
    obtain ⟨e, u, e1, e2, e3⟩ := rdS_took h'
    obtain ⟨f, u', f1, f2, _⟩ := rdN_took e
    have hv := rdVal_2 h h0
    have hok : (⟨2, 0, rdS (rdN' st 2) 24⟩ : Val).ok = true := by simp [Val.ok]; omega
    rw [hv, h1, valB_2 hok rfl]
    exact ⟨f, hok, by rw [f1, f2, e1, e2, h0]; simp⟩
theorem rdVal'_len (st : Rd) : (rdVal' st).s.length ≤ st.s.length := by
  have h1 := rdN'_len st 2
  have h2 := rdN'_len (rdN' st 2) 1099511627776
  have h3 := rdS'_len (rdN' st 2) 24
  unfold rdVal'
  split
  · omega
  · split <;> omega
theorem rdVal_err {st : Rd} (h : st.e ≠ 0) : rdVal st = ⟨0, 0, []⟩ ∧ rdVal' st = st := by
  have h0 : rdVal' st = st := by rw [rdVal'_0 (rdN_err h).1, (rdN_err h).2]
  exact ⟨rdVal_bad (by rw [h0]; exact h), h0⟩
theorem rdVal_ok (st : Rd) : (rdVal st).ok = true := by
  by_cases h : (rdVal' st).e = 0
  · exact (rdVal_took h).2.1
  · rw [rdVal_bad h]; decide
/-! A number that is not 0. -/
def rdAb' (st : Rd) (most : Int) : Rd := if rdN st most = 0 then rdF (rdN' st most) 3 else rdN' st most
theorem rdAb'_zero {st : Rd} {most : Int} (h : rdN st most = 0) : rdAb' st most = rdF (rdN' st most) 3 := by unfold rdAb'; rw [if_pos h]
theorem rdAb'_pos {st : Rd} {most : Int} (h : rdN st most ≠ 0) : rdAb' st most = rdN' st most := by unfold rdAb'; rw [if_neg h]
theorem rdAb'_bad {st : Rd} {most : Int} (h : st.e ≠ 0) : rdAb' st most = st := by rw [rdAb'_zero (rdN_err h).1, (rdN_err h).2, rdF_err h]
theorem rdAb'_ok {st : Rd} {most : Int} (h : (rdAb' st most).e = 0) : rdN st most ≠ 0 ∧ rdAb' st most = rdN' st most := by
  by_cases h0 : rdN st most = 0
  · rw [rdAb'_zero h0] at h
    exact absurd h (rdF_bad _ (by decide))
  · exact ⟨h0, rdAb'_pos h0⟩
theorem rdAb'_len (st : Rd) (most : Int) : (rdAb' st most).s.length ≤ st.s.length := by
  have := rdN'_len st most
  unfold rdAb'; split
  · rw [rdF_s]; exact this
  · exact this
theorem rdAb_num {n most : Int} (r : List UInt8) (h0 : 1 ≤ n) (h1 : n ≤ 1099511627776) (h : n ≤ most) : rdN ⟨num n ++ r, 0⟩ most = n ∧ rdAb' ⟨num n ++ r, 0⟩ most = ⟨r, 0⟩ := by
  obtain ⟨a, b⟩ := rdN_num (n := n) (most := most) r (by omega) h1 h
  exact ⟨a, by rw [rdAb'_pos (by rw [a]; omega), b]⟩
theorem rdAb_took {st : Rd} {most : Int} (h : (rdAb' st most).e = 0) : st.e = 0 ∧ st.s = num (rdN st most) ++ (rdAb' st most).s ∧ 1 ≤ rdN st most ∧ rdN st most ≤ most := by
  obtain ⟨h0, h1⟩ := rdAb'_ok h
  rw [h1] at h ⊢
  obtain ⟨e, u, e1, e2, e3⟩ := rdN_took h
  have := (rdN_bd st most).1
  exact ⟨e, by rw [e1, e2], by omega, e3⟩
theorem rdN_took2 {st : Rd} {most : Int} (h : (rdN' st most).e = 0) : st.e = 0 ∧ st.s = num (rdN st most) ++ (rdN' st most).s ∧ 0 ≤ rdN st most ∧ rdN st most ≤ most := by
  obtain ⟨e, u, e1, e2, e3⟩ := rdN_took h
  exact ⟨e, by rw [e1, e2], (rdN_bd st most).1, e3⟩
end Go.Proofs.YtjhndilflcigiaaDoor
namespace Go.Proofs.YtjhndilflcigiaaDoor
open Go.RowKit

def longF (f : List Val) : Bool := f.any fun x => decide (200 < x.s.length)
set_option maxHeartbeats 400000 in
theorem c_Large (f : List Val) (w : World) (hf : f.length = 8) : Calls Tryd.prog 33 #[.agg (farr f)] w (RetV w (.bool (longF f))) := by
  go_enter Tryd.func33, Tryd.ntmps33
  go_wp2
  go_loopw [3] (fun i wr => ∃ k : Nat, k ≤ 8 ∧ i = .int .i64 k ∧ (f.take k).any (fun x => decide (200 < x.s.length)) = false ∧ wr = w.alloc (.cells (farr f) 25)) (fun i _ => 8 - (intOf i).toNat)
  case atStart => exact ⟨0, by omega, rfl, rfl, rfl⟩
  case round =>
    obtain ⟨k, hk, rfl, hno, rfl⟩ := hrel
    have NO := Lib.hid hno
    clear hno
    by_cases hlt : k < 8
    · obtain ⟨c0, c1, c2⟩ := farr_get (f := f) (k := k) (by omega)
      have T := Lib.hid (show f.take (k + 1) = f.take k ++ [f[k]'(by omega)] from List.take_succ_eq_append_getElem (by omega))
      have M := Lib.hid (List.getElem_mem (l := f) (n := k) (by omega))
      by_cases hb : 200 < (f[k]'(by omega)).s.length
      · go_wp2
        go_ret
        refine RetV.bool ?_ (by repeat (first | exact Below.refl _ _ | refine Below.drew ?_ | refine Below.alloc ?_ (by first | omega | (simp; done) | (simp; omega)) _ | refine Below.setCell ?_ (by first | omega | (simp; done) | (simp; omega)) _ | refine Below.trans ?_ (Below.mono (by assumption) (by first | omega | (simp; done) | (simp; omega)))))
        symm
        exact List.any_eq_true.2 ⟨_, M.out, by simpa using hb⟩
      · go_wp2
        go_roundw
        case rel => exact ⟨k + 1, by omega, by go_num, by rw [T.out, List.any_append, NO.out]; simpa using hb, by first | rfl | trivial⟩
        case measure => simp [intOf]; omega
    · have : k = 8 := by omega
      subst this
      go_wp2
      go_ret
      refine RetV.bool ?_ (by repeat (first | exact Below.refl _ _ | refine Below.drew ?_ | refine Below.alloc ?_ (by first | omega | (simp; done) | (simp; omega)) _ | refine Below.setCell ?_ (by first | omega | (simp; done) | (simp; omega)) _ | refine Below.trans ?_ (Below.mono (by assumption) (by first | omega | (simp; done) | (simp; omega)))))
      have := NO.out
      rw [List.take_of_length_le (by omega)] at this
      exact this.symm
def vals (f : List Val) : Bool := f.all Val.ok
def Card.ok (c : Card) : Bool := decide (1 ≤ c.id) && decide (c.id < 1073741824) && decide (1 ≤ c.ver) && decide (c.ver ≤ 1099511627776) && decide (c.lab < 65536) && vals c.f
/-! The program's. -/
end Go.Proofs.YtjhndilflcigiaaDoor
