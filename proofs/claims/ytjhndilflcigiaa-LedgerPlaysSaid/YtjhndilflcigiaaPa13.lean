/-
  The walks of atomic numbers, and of (*Ledger).Raise: a row's epochs are counted.
-/
import Derived.Test.YtjhndilflcigiaaPa12
import Derived.Test.YtjhndilflcigiaaRows
import Derived.WalkKit
import Derived.WalkSpells
import Derived.WalkLawsBesides
import Derived.Lib.Hide
import Derived.Deep.QuietTactic
import Derived.BigQuiet
import Derived.Maps.AppendAt
import Derived.WalkSmall
import Derived.ProofKit
import Derived.OpenShut
import Derived.JoinedCond
import Derived.Deep.Slices
import Derived.Deep.Fields
import Derived.Carry
import Derived.Test.YtjhndilflcigiaaProg
import Derived.Deep.CutBlock
import Derived.Deep.DeepCutAuto
import Derived.Deep.AppendSrc
import Derived.Lib.AppendStr
import Derived.Laws.BytesArg
import Derived.Laws.CopyOwn
import Derived.Outline
import Derived.IntWalk
import Derived.Lib.EndianBits
import Derived.Laws.Tables
import Derived.Laws.Rows
import Derived.Shelf.Spec.TrailingZeros
import Derived.StillTail
import Derived.Lib.AppendZeros
import Derived.Deep.Quiet
import Derived.ChangeKeysEq
import Derived.Laws.StructEq
import Derived.Laws.LoneSync
namespace Go.Proofs.Ytjhndilflcigiaa
open Go.RowKit

set_option maxHeartbeats 400000 in
theorem c_atomic_Load (g o : Nat) (x : Int) (w : World) (h : w.cell? ⟨g, o, none⟩ = some (.int .i64 x)) :
    Calls Try.prog 41 #[.pointer (some ⟨g, o, none⟩)] w (fun e w' => e = .returned (.int .i64 x) ∧ w' = w) := by
  have hd := run_call_load (P := Try.prog) Try.func72 (by kernel_rfl) (by kernel_rfl) (by kernel_rfl) .i64 (by kernel_rfl) h
  go_enter Try.func41, Try.ntmps41
  go_wp2_with (fail)
  go_ret
  exact ⟨rfl, rfl⟩
set_option maxHeartbeats 400000 in
theorem c_atomic_Add (g o : Nat) (x : Int) (w : World) (h : w.cell? ⟨g, o, none⟩ = some (.int .i64 x)) (hz : w.frozen? ⟨g, o, none⟩ = false) (h0 : 0 ≤ x) (h1 : x < 1099511627776) :
    Calls Try.prog 42 #[.pointer (some ⟨g, o, none⟩), .int .i64 1] w (fun e w' => e = .returned (.int .i64 (x + 1)) ∧ w' = w.setCell ⟨g, o, none⟩ (.int .i64 (x + 1))) := by
  have hd := run_call_add (P := Try.prog) (s := x + 1) (y := 1) Try.func73 (by kernel_rfl) (by kernel_rfl) (by kernel_rfl) .i64 (by kernel_rfl) h hz (by
    simp [Op.intArith, IntKind.wrap, IntKind.bits, IntKind.signed]; omega)
  go_enter Try.func42, Try.ntmps42
  go_wp2_with (fail)
  go_ret
  exact ⟨rfl, rfl⟩
def raiseOk (l : List LRow) (dev : Int) : Bool := decide (0 ≤ dev ∧ dev < 6 ∧ (rowAt l dev).ep < 1099511627776)
def raiseN (l : List LRow) (dev : Int) : Int := if raiseOk l dev then (rowAt l dev).ep + 1 else 0
def raiseL (l : List LRow) (dev : Int) : List LRow := if raiseOk l dev then l.set dev.toNat ⟨(rowAt l dev).last, (rowAt l dev).ep + 1, (rowAt l dev).a⟩ else l
theorem lg_ep {l : List LR} {k : Nat} (hk : k < l.length) (ep : Int) :
    (lgArr l).setIfInBounds (k * 12 + 1) (.int .i64 ep) = lgArr (l.set k (⟨l[k].1.last, ep, l[k].1.a⟩, l[k].2.1, l[k].2.2)) := by
  have hs := lg_size l
  have hs2 := lg_size (l.set k (⟨l[k].1.last, ep, l[k].1.a⟩, l[k].2.1, l[k].2.2))
  rw [List.length_set] at hs2
  apply Array.ext_getElem?
  intro i
  by_cases hi : i < l.length * 12
  · have hq : i / 12 < l.length := by omega
    have hr : i % 12 < 12 := Nat.mod_lt _ (by omega)
    have hir : i / 12 * 12 + i % 12 = i := by omega
    have e1 := lg_get hq (i % 12) hr
    have e2 := lg_get (l := l.set k (⟨l[k].1.last, ep, l[k].1.a⟩, l[k].2.1, l[k].2.2)) (k := i / 12) (by rw [List.length_set]; exact hq) (i % 12) hr
    rw [hir] at e1 e2
    rw [e2]
    by_cases hqk : i / 12 = k
    · rw [List.getElem_set, if_pos hqk.symm]
      by_cases h0 : i % 12 = 1
      · rw [show i = k * 12 + 1 by omega, Array.getElem?_setIfInBounds_self_of_lt (by rw [hs]; omega), show (k * 12 + 1) % 12 = 1 by omega]
        rfl
      · rw [Array.getElem?_setIfInBounds_ne (by omega), e1]
        subst hqk
        have h12 : i % 12 = 0 ∨ 2 ≤ i % 12 := by omega
        rcases h12 with h | h
        · rw [h]; rfl
        · unfold LR.cells
          rw [List.getElem?_append_right (by simpa using h), List.getElem?_append_right (by simpa using h)]
          rfl
    · rw [List.getElem_set, if_neg (fun e => hqk e.symm), Array.getElem?_setIfInBounds_ne (by omega), e1]
  · rw [Array.getElem?_eq_none (by rw [Array.size_setIfInBounds, hs]; omega), Array.getElem?_eq_none (by rw [hs2]; omega)]
/-- The end of Raise. -/
def RetRaise (g : Nat) (l : List LR) (dev : Int) (w : World) (e : Ending) (w' : World) : Prop :=
  e = .returned (.int .i64 (raiseN (rowsOf l) dev)) ∧ Kept (some g) w.heap.size w w' ∧ ∃ l', Lg w' g l' ∧ rowsOf l' = raiseL (rowsOf l) dev ∧ ∀ q, (∀ x ∈ l, OffF q x) → ∀ x ∈ l', OffF q x
theorem raise_no {l : List LRow} {dev : Int} (h : raiseOk l dev = false) : raiseN l dev = 0 ∧ raiseL l dev = l := by unfold raiseN raiseL; rw [h]; exact ⟨rfl, rfl⟩
theorem Lg.ep {w : World} {g : Nat} {l : List LR} {k : Nat} (h : Lg w g l) (hk : k < l.length) (ep : Int) :
    Lg (w.setCell ⟨g, k * 12 + 1, none⟩ (.int .i64 ep)) g (l.set k (⟨l[k].1.last, ep, l[k].1.a⟩, l[k].2.1, l[k].2.2)) := by
  refine ⟨by rw [List.length_set]; exact h.1, by rw [← lg_ep hk]; exact h.2.1.store _ _, fun x hx => ?_⟩
  have hkk := kept_set w g (k * 12 + 1) (.int .i64 ep)
  rcases List.mem_or_eq_of_mem_set hx with hx | rfl
  · obtain ⟨h1, h2⟩ := h.2.2 x hx
    exact ⟨h1.own_store h2 hkk, h2⟩
  · obtain ⟨h1, h2⟩ := h.2.2 l[k] (List.getElem_mem hk)
    exact ⟨h1.own_store h2 hkk, h2⟩
theorem rowsOf_ep {l : List LR} {k : Nat} (hk : k < l.length) (ep : Int) : rowsOf (l.set k (⟨l[k].1.last, ep, l[k].1.a⟩, l[k].2.1, l[k].2.2)) = (rowsOf l).set k ⟨(rowAt (rowsOf l) k).last, ep, (rowAt (rowsOf l) k).a⟩ := by
  rw [rowAt_of hk]; unfold rowsOf; rw [List.map_set]
set_option maxHeartbeats 1000000 in
set_option maxRecDepth 4000 in
theorem ledger_Raise_bad (g : Nat) (dev : Int) (w : World) (h : dev < 0 ∨ 6 ≤ dev) : Calls Try.prog 19 #[.pointer (some ⟨g, 0, none⟩), .int .i64 dev] w (RetV w (.int .i64 0)) := by
  have hcs : dev < 0 ∨ (0 ≤ dev ∧ 6 ≤ dev) := by omega
  clear h
  rcases hcs with h1 | ⟨h1, h2⟩
  all_goals
    go_enter Try.func19, Try.ntmps19
    go_wp2_with (fail)
    go_ret
    exact ⟨rfl, (by repeat (first | exact Below.refl _ _ | refine Below.drew ?_ | refine Below.alloc ?_ (by first | omega | (simp; done) | (simp; omega)) _ | refine Below.setCell ?_ (by first | omega | (simp; done) | (simp; omega)) _ | refine Below.trans ?_ (Below.mono (by assumption) (by first | omega | (simp; done) | (simp; omega)))))⟩
set_option maxHeartbeats 1000000 in
set_option maxRecDepth 4000 in
theorem ledger_Raise_nil (dev : Int) (w : World) : Calls Try.prog 19 #[.pointer none, .int .i64 dev] w (RetV w (.int .i64 0)) := by
  go_enter Try.func19, Try.ntmps19
  go_wp2_with (fail)
  go_ret
  exact ⟨rfl, (by repeat (first | exact Below.refl _ _ | refine Below.drew ?_ | refine Below.alloc ?_ (by first | omega | (simp; done) | (simp; omega)) _ | refine Below.setCell ?_ (by first | omega | (simp; done) | (simp; omega)) _ | refine Below.trans ?_ (Below.mono (by assumption) (by first | omega | (simp; done) | (simp; omega)))))⟩
set_option maxHeartbeats 2000000 in
set_option maxRecDepth 4000 in
theorem ledger_Raise_full (g k : Nat) (x : Int) (w : World) (hk : k < 6) (q : w.cell? ⟨g, k * 12 + 1, none⟩ = some (.int .i64 x)) (hg : g < w.heap.size) (hx : 1099511627776 ≤ x) :
    Calls Try.prog 19 #[.pointer (some ⟨g, 0, none⟩), .int .i64 k] w (RetV w (.int .i64 0)) := by
  have hcs : k = 0 ∨ k = 1 ∨ k = 2 ∨ k = 3 ∨ k = 4 ∨ k = 5 := by omega
  have j : decide (1099511627776 ≤ x) = true := by simpa using hx
  clear hk hx
  rcases hcs with rfl | rfl | rfl | rfl | rfl | rfl
  all_goals
    simp only [Nat.reduceMul, Nat.reduceAdd] at q
    have HQ := Lib.hid q
    go_enter Try.func19, Try.ntmps19
    go_wp2_with (fail)
    refine (c_atomic_Load g _ x _ HQ.out).mono ?_
    rintro e w1 ⟨rfl, rfl⟩
    go_wp2_with (fail)
    go_ret
    exact ⟨rfl, (by repeat (first | exact Below.refl _ _ | refine Below.drew ?_ | refine Below.alloc ?_ (by first | omega | (simp; done) | (simp; omega)) _ | refine Below.setCell ?_ (by first | omega | (simp; done) | (simp; omega)) _ | refine Below.trans ?_ (Below.mono (by assumption) (by first | omega | (simp; done) | (simp; omega)))))⟩
set_option maxHeartbeats 2000000 in
set_option maxRecDepth 4000 in
theorem ledger_Raise_ok (g k : Nat) (x : Int) (w : World) (hk : k < 6) (q : w.cell? ⟨g, k * 12 + 1, none⟩ = some (.int .i64 x)) (hf : w.frozen? ⟨g, k * 12 + 1, none⟩ = false) (hg : g < w.heap.size) (hx0 : 0 ≤ x) (hx : x < 1099511627776) :
    Calls Try.prog 19 #[.pointer (some ⟨g, 0, none⟩), .int .i64 k] w (fun e w' => e = .returned (.int .i64 (x + 1)) ∧ w' = w.setCell ⟨g, k * 12 + 1, none⟩ (.int .i64 (x + 1))) := by
  have hcs : k = 0 ∨ k = 1 ∨ k = 2 ∨ k = 3 ∨ k = 4 ∨ k = 5 := by omega
  have j : decide (1099511627776 ≤ x) = false := by simpa using hx
  have HX := Lib.hid hx
  have HX0 := Lib.hid hx0
  have HF := Lib.hid hf
  clear hk hx hx0 hf
  rcases hcs with rfl | rfl | rfl | rfl | rfl | rfl
  all_goals
    simp only [Nat.reduceMul, Nat.reduceAdd] at q HF ⊢
    have HQ := Lib.hid q
    go_enter Try.func19, Try.ntmps19
    go_wp2_with (fail)
    refine (c_atomic_Load g _ x _ HQ.out).mono ?_
    rintro e w1 ⟨rfl, rfl⟩
    go_wp2_with (fail)
    refine (c_atomic_Add g _ x _ HQ.out HF.out HX0.out HX.out).mono ?_
    rintro e w2 ⟨rfl, rfl⟩
    go_wp2_with (fail)
    go_ret
    exact ⟨rfl, rfl⟩
theorem c_ledger_Raise (g : Nat) (l : List LR) (dev : Int) (w : World) (h : Lg w g l) (h0 : ∀ x ∈ rowsOf l, 0 ≤ x.ep) :
    Calls Try.prog 19 #[.pointer (some ⟨g, 0, none⟩), .int .i64 dev] w (RetRaise g l dev w) := by
  by_cases hd : dev < 0 ∨ 6 ≤ dev
  · have hno : raiseOk (rowsOf l) dev = false := by unfold raiseOk; simp; omega
    exact (ledger_Raise_bad g dev w hd).mono fun e w' ⟨he, hb⟩ => ⟨by rw [he, (raise_no hno).1], Kept.of_below hb, l, h.below hb, (raise_no hno).2.symm, fun _ h => h⟩
  · obtain ⟨k, rfl⟩ : ∃ k : Nat, dev = k := ⟨dev.toNat, by omega⟩
    have hk : k < 6 := by omega
    have hkl : k < l.length := by rw [h.1]; exact hk
    have q := h.2.1.cell (lg_get hkl 1 (by omega))
    have e0 : 0 ≤ l[k].1.ep := h0 _ (List.mem_map.2 ⟨l[k], List.getElem_mem hkl, rfl⟩)
    by_cases hx : 1099511627776 ≤ l[k].1.ep
    · have hno : raiseOk (rowsOf l) k = false := by unfold raiseOk; rw [rowAt_of hkl]; simp; omega
      exact (ledger_Raise_full g k _ w hk q h.2.1.lt hx).mono fun e w' ⟨he, hb⟩ => ⟨by rw [he, (raise_no hno).1], Kept.of_below hb, l, h.below hb, (raise_no hno).2.symm, fun _ h => h⟩
    · have hyes : raiseOk (rowsOf l) k = true := by unfold raiseOk; rw [rowAt_of hkl]; simp; omega
      refine (ledger_Raise_ok g k _ w hk q (h.2.1.frozen _) h.2.1.lt e0 (by omega)).mono ?_
      rintro e w' ⟨rfl, rfl⟩
      refine ⟨by unfold raiseN; rw [if_pos hyes, rowAt_of hkl], kept_set w g _ _, _, h.ep hkl (l[k].1.ep + 1), ?_, fun q h x hx => ?_⟩
      · rw [rowsOf_ep hkl]
        unfold raiseL
        rw [if_pos hyes, rowAt_of hkl, Int.toNat_natCast]
      · rcases List.mem_or_eq_of_mem_set hx with hx | rfl
        · exact h x hx
        · have := h l[k] (List.getElem_mem hkl)
          exact this
end Go.Proofs.Ytjhndilflcigiaa
