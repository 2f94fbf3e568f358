/-
  Lemmas (walks and plain laws), in one text.
-/
import Derived.Test.YtjhndilflcigiaaPb11
import Derived.Test.YtjhndilflcigiaaRows
import Derived.WalkKit
import Derived.WalkSpells
import Derived.WalkLawsBesides
import Derived.Lib.Hide
import Derived.Deep.QuietTactic
import Derived.BigQuiet
import Derived.Maps.AppendAt
import Derived.WalkSmall
import Derived.ProofKit
import Derived.OpenShut
import Derived.JoinedCond
import Derived.Deep.Slices
import Derived.Deep.Fields
import Derived.Carry
import Derived.Test.YtjhndilflcigiaaProg
import Derived.Deep.CutBlock
import Derived.Deep.DeepCutAuto
import Derived.Deep.AppendSrc
import Derived.Lib.AppendStr
import Derived.Laws.BytesArg
import Derived.Laws.CopyOwn
import Derived.Outline
import Derived.IntWalk
import Derived.Lib.EndianBits
import Derived.Laws.Tables
import Derived.Laws.Rows
import Derived.Shelf.Spec.TrailingZeros
import Derived.StillTail
import Derived.Lib.AppendZeros
import Derived.Deep.Quiet
import Derived.ChangeKeysEq
import Derived.Laws.StructEq
import Derived.Laws.LoneSync
namespace Go.Proofs.Ytjhndilflcigiaa
open Go.RowKit

set_option maxHeartbeats 400000 in
theorem c_atomic_Load (g o : Nat) (x : Int) (w : World) (h : w.cell? ⟨g, o, none⟩ = some (.int .i64 x)) :
    Calls Try.prog 41 #[.pointer (some ⟨g, o, none⟩)] w (fun e w' => e = .returned (.int .i64 x) ∧ w' = w) := by
  have hd := run_call_load (P := Try.prog) Try.func72 (by kernel_rfl) (by kernel_rfl) (by kernel_rfl) .i64 (by kernel_rfl) h
  go_enter Try.func41, Try.ntmps41
  go_wp2_with (fail)
  go_ret
  exact ⟨rfl, rfl⟩
set_option maxHeartbeats 400000 in
theorem c_atomic_Add (g o : Nat) (x : Int) (w : World) (h : w.cell? ⟨g, o, none⟩ = some (.int .i64 x)) (hz : w.frozen? ⟨g, o, none⟩ = false) (h0 : 0 ≤ x) (h1 : x < 1099511627776) :
    Calls Try.prog 42 #[.pointer (some ⟨g, o, none⟩), .int .i64 1] w (fun e w' => e = .returned (.int .i64 (x + 1)) ∧ w' = w.setCell ⟨g, o, none⟩ (.int .i64 (x + 1))) := by
  have hd := run_call_add (P := Try.prog) (s := x + 1) (y := 1) Try.func73 (by kernel_rfl) (by kernel_rfl) (by kernel_rfl) .i64 (by kernel_rfl) h hz (by
    simp [Op.intArith, IntKind.wrap, IntKind.bits, IntKind.signed]; omega)
  go_enter Try.func42, Try.ntmps42
  go_wp2_with (fail)
  go_ret
  exact ⟨rfl, rfl⟩
def raiseOk (l : List LRow) (dev : Int) : Bool := decide (0 ≤ dev ∧ dev < 6 ∧ (rowAt l dev).ep < 1099511627776)
def raiseN (l : List LRow) (dev : Int) : Int := if raiseOk l dev then (rowAt l dev).ep + 1 else 0
def raiseL (l : List LRow) (dev : Int) : List LRow := if raiseOk l dev then l.set dev.toNat ⟨(rowAt l dev).last, (rowAt l dev).ep + 1, (rowAt l dev).a⟩ else l
theorem lg_ep {l : List LR} {k : Nat} (hk : k < l.length) (ep : Int) :
    (lgArr l).setIfInBounds (k * 12 + 1) (.int .i64 ep) = lgArr (l.set k (⟨l[k].1.last, ep, l[k].1.a⟩, l[k].2.1, l[k].2.2)) := by
  have hs := lg_size l
  have hs2 := lg_size (l.set k (⟨l[k].1.last, ep, l[k].1.a⟩, l[k].2.1, l[k].2.2))
  rw [List.length_set] at hs2
  apply Array.ext_getElem?
  intro i
  by_cases hi : i < l.length * 12
  · have hq : i / 12 < l.length := by omega
    have hr : i % 12 < 12 := Nat.mod_lt _ (by omega)
    have hir : i / 12 * 12 + i % 12 = i := by omega
    have e1 := lg_get hq (i % 12) hr
    have e2 := lg_get (l := l.set k (⟨l[k].1.last, ep, l[k].1.a⟩, l[k].2.1, l[k].2.2)) (k := i / 12) (by rw [List.length_set]; exact hq) (i % 12) hr
    rw [hir] at e1 e2
    rw [e2]
    by_cases hqk : i / 12 = k
    · rw [List.getElem_set, if_pos hqk.symm]
      by_cases h0 : i % 12 = 1
      · rw [show i = k * 12 + 1 by omega, Array.getElem?_setIfInBounds_self_of_lt (by rw [hs]; omega), show (k * 12 + 1) % 12 = 1 by omega]
        rfl
      · rw [Array.getElem?_setIfInBounds_ne (by omega), e1]
        subst hqk
        have h12 : i % 12 = 0 ∨ 2 ≤ i % 12 := by omega
        rcases h12 with h | h
        · rw [h]; rfl
        · unfold LR.cells
          rw [List.getElem?_append_right (by simpa using h), List.getElem?_append_right (by simpa using h)]
          rfl
    · rw [List.getElem_set, if_neg (fun e => hqk e.symm), Array.getElem?_setIfInBounds_ne (by omega), e1]
  · rw [Array.getElem?_eq_none (by rw [Array.size_setIfInBounds, hs]; omega), Array.getElem?_eq_none (by rw [hs2]; omega)]
/-- The end of Raise. -/
def RetRaise (g : Nat) (l : List LR) (dev : Int) (w : World) (e : Ending) (w' : World) : Prop :=
  e = .returned (.int .i64 (raiseN (rowsOf l) dev)) ∧ Kept (some g) w.heap.size w w' ∧ ∃ l', Lg w' g l' ∧ rowsOf l' = raiseL (rowsOf l) dev ∧ ∀ q, (∀ x ∈ l, OffF q x) → ∀ x ∈ l', OffF q x
theorem raise_no {l : List LRow} {dev : Int} (h : raiseOk l dev = false) : raiseN l dev = 0 ∧ raiseL l dev = l := by unfold raiseN raiseL; rw [h]; exact ⟨rfl, rfl⟩
theorem Lg.ep {w : World} {g : Nat} {l : List LR} {k : Nat} (h : Lg w g l) (hk : k < l.length) (ep : Int) :
    Lg (w.setCell ⟨g, k * 12 + 1, none⟩ (.int .i64 ep)) g (l.set k (⟨l[k].1.last, ep, l[k].1.a⟩, l[k].2.1, l[k].2.2)) := by
  refine ⟨by rw [List.length_set]; exact h.1, by rw [← lg_ep hk]; exact h.2.1.store _ _, fun x hx => ?_⟩
  have hkk := kept_set w g (k * 12 + 1) (.int .i64 ep)
  rcases List.mem_or_eq_of_mem_set hx with hx | rfl
  · obtain ⟨h1, h2⟩ := h.2.2 x hx
    exact ⟨h1.own_store h2 hkk, h2⟩
  · obtain ⟨h1, h2⟩ := h.2.2 l[k] (List.getElem_mem hk)
    exact ⟨h1.own_store h2 hkk, h2⟩
theorem rowsOf_ep {l : List LR} {k : Nat} (hk : k < l.length) (ep : Int) : rowsOf (l.set k (⟨l[k].1.last, ep, l[k].1.a⟩, l[k].2.1, l[k].2.2)) = (rowsOf l).set k ⟨(rowAt (rowsOf l) k).last, ep, (rowAt (rowsOf l) k).a⟩ := by
  rw [rowAt_of hk]; unfold rowsOf; rw [List.map_set]
set_option maxHeartbeats 1000000 in
set_option maxRecDepth 4000 in
theorem ledger_Raise_bad (g : Nat) (dev : Int) (w : World) (h : dev < 0 ∨ 6 ≤ dev) : Calls Try.prog 19 #[.pointer (some ⟨g, 0, none⟩), .int .i64 dev] w (RetV w (.int .i64 0)) := by
  have hcs : dev < 0 ∨ (0 ≤ dev ∧ 6 ≤ dev) := by omega
  clear h
  rcases hcs with h1 | ⟨h1, h2⟩
  all_goals
    go_enter Try.func19, Try.ntmps19
    go_wp2_with (fail)
    go_ret
    exact ⟨rfl, (by repeat (first | exact Below.refl _ _ | refine Below.drew ?_ | refine Below.alloc ?_ (by first | omega | (simp; done) | (simp; omega)) _ | refine Below.setCell ?_ (by first | omega | (simp; done) | (simp; omega)) _ | refine Below.trans ?_ (Below.mono (by assumption) (by first | omega | (simp; done) | (simp; omega)))))⟩
set_option maxHeartbeats 2000000 in
set_option maxRecDepth 4000 in
theorem ledger_Raise_full (g k : Nat) (x : Int) (w : World) (hk : k < 6) (q : w.cell? ⟨g, k * 12 + 1, none⟩ = some (.int .i64 x)) (hg : g < w.heap.size) (hx : 1099511627776 ≤ x) :
    Calls Try.prog 19 #[.pointer (some ⟨g, 0, none⟩), .int .i64 k] w (RetV w (.int .i64 0)) := by
  have hcs : k = 0 ∨ k = 1 ∨ k = 2 ∨ k = 3 ∨ k = 4 ∨ k = 5 := by omega
  have j : decide (1099511627776 ≤ x) = true := by simpa using hx
  clear hk hx
  rcases hcs with rfl | rfl | rfl | rfl | rfl | rfl
  all_goals
    simp only [Nat.reduceMul, Nat.reduceAdd] at q
    have HQ := Lib.hid q
    go_enter Try.func19, Try.ntmps19
    go_wp2_with (fail)
    refine (c_atomic_Load g _ x _ HQ.out).mono ?_
    rintro e w1 ⟨rfl, rfl⟩
    go_wp2_with (fail)
    go_ret
    exact ⟨rfl, (by repeat (first | exact Below.refl _ _ | refine Below.drew ?_ | refine Below.alloc ?_ (by first | omega | (simp; done) | (simp; omega)) _ | refine Below.setCell ?_ (by first | omega | (simp; done) | (simp; omega)) _ | refine Below.trans ?_ (Below.mono (by assumption) (by first | omega | (simp; done) | (simp; omega)))))⟩
set_option maxHeartbeats 2000000 in
set_option maxRecDepth 4000 in
theorem ledger_Raise_ok (g k : Nat) (x : Int) (w : World) (hk : k < 6) (q : w.cell? ⟨g, k * 12 + 1, none⟩ = some (.int .i64 x)) (hf : w.frozen? ⟨g, k * 12 + 1, none⟩ = false) (hg : g < w.heap.size) (hx0 : 0 ≤ x) (hx : x < 1099511627776) :
    Calls Try.prog 19 #[.pointer (some ⟨g, 0, none⟩), .int .i64 k] w (fun e w' => e = .returned (.int .i64 (x + 1)) ∧ w' = w.setCell ⟨g, k * 12 + 1, none⟩ (.int .i64 (x + 1))) := by
  have hcs : k = 0 ∨ k = 1 ∨ k = 2 ∨ k = 3 ∨ k = 4 ∨ k = 5 := by omega
  have j : decide (1099511627776 ≤ x) = false := by simpa using hx
  have HX := Lib.hid hx
  have HX0 := Lib.hid hx0
  have HF := Lib.hid hf
  clear hk hx hx0 hf
  rcases hcs with rfl | rfl | rfl | rfl | rfl | rfl
  all_goals
    simp only [Nat.reduceMul, Nat.reduceAdd] at q HF ⊢
    have HQ := Lib.hid q
    go_enter Try.func19, Try.ntmps19
    go_wp2_with (fail)
    refine (c_atomic_Load g _ x _ HQ.out).mono ?_
    rintro e w1 ⟨rfl, rfl⟩
    go_wp2_with (fail)
    refine (c_atomic_Add g _ x _ HQ.out HF.out HX0.out HX.out).mono ?_
    rintro e w2 ⟨rfl, rfl⟩
    go_wp2_with (fail)
    go_ret
    exact ⟨rfl, rfl⟩
theorem c_ledger_Raise (g : Nat) (l : List LR) (dev : Int) (w : World) (h : Lg w g l) (h0 : ∀ x ∈ rowsOf l, 0 ≤ x.ep) :
    Calls Try.prog 19 #[.pointer (some ⟨g, 0, none⟩), .int .i64 dev] w (RetRaise g l dev w) := by
  by_cases hd : dev < 0 ∨ 6 ≤ dev
  · have hno : raiseOk (rowsOf l) dev = false := by unfold raiseOk; simp; omega
    exact (ledger_Raise_bad g dev w hd).mono fun e w' ⟨he, hb⟩ => ⟨by rw [he, (raise_no hno).1], Kept.of_below hb, l, h.below hb, (raise_no hno).2.symm, fun _ h => h⟩
  · obtain ⟨k, rfl⟩ : ∃ k : Nat, dev = k := ⟨dev.toNat, by omega⟩
    have hk : k < 6 := by omega
    have hkl : k < l.length := by rw [h.1]; exact hk
    have q := h.2.1.cell (lg_get hkl 1 (by omega))
    have e0 : 0 ≤ l[k].1.ep := h0 _ (List.mem_map.2 ⟨l[k], List.getElem_mem hkl, rfl⟩)
    by_cases hx : 1099511627776 ≤ l[k].1.ep
    · have hno : raiseOk (rowsOf l) k = false := by unfold raiseOk; rw [rowAt_of hkl]; simp; omega
      exact (ledger_Raise_full g k _ w hk q h.2.1.lt hx).mono fun e w' ⟨he, hb⟩ => ⟨by rw [he, (raise_no hno).1], Kept.of_below hb, l, h.below hb, (raise_no hno).2.symm, fun _ h => h⟩
    · have hyes : raiseOk (rowsOf l) k = true := by unfold raiseOk; rw [rowAt_of hkl]; simp; omega
      refine (ledger_Raise_ok g k _ w hk q (h.2.1.frozen _) h.2.1.lt e0 (by omega)).mono ?_
      rintro e w' ⟨rfl, rfl⟩
      refine ⟨by unfold raiseN; rw [if_pos hyes, rowAt_of hkl], kept_set w g _ _, _, h.ep hkl (l[k].1.ep + 1), ?_, fun q h x hx => ?_⟩
      · rw [rowsOf_ep hkl]
        unfold raiseL
        rw [if_pos hyes, rowAt_of hkl, Int.toNat_natCast]
      · rcases List.mem_or_eq_of_mem_set hx with hx | rfl
        · exact h x hx
        · have := h l[k] (List.getElem_mem hkl)
          exact this
end Go.Proofs.Ytjhndilflcigiaa
namespace Go.Proofs.Ytjhndilflcigiaa
open Go.RowKit

/-- A slice of rows that can be read, each filter in its place. -/
def InRw (w : World) (A : Option Addr) (c : Nat) (l : List LR) : Prop := In 12 LR.cells w A c l ∧ ∀ x ∈ l, InN w x.2.1 x.2.2 x.1.a.f
theorem InRw.below {w w' : World} {A : Option Addr} {c : Nat} {l : List LR} (h : InRw w A c l) (hb : Below w.heap.size w w') : InRw w' A c l := ⟨h.1.below hb, fun x hx => (h.2 x hx).below hb⟩
/-- Where a row lies, and what its cells are. -/
def RowAt (w : World) (b o : Nat) (x : LR) : Prop := b < w.heap.size ∧ ∀ w', Below w.heap.size w w' → w'.cell? ⟨b, o, none⟩ = some (.int .i64 x.1.last) ∧ w'.cell? ⟨b, o + 1, none⟩ = some (.int .i64 x.1.ep) ∧ ∀ j u, (x.1.a.arr x.2.1 x.2.2)[j]? = some u → w'.cell? ⟨b, o + 2 + j, none⟩ = some u
theorem InRw.row {w : World} {A : Option Addr} {c : Nat} {l : List LR} (h : InRw w A c l) {k : Nat} (hk : k < l.length) : ∃ b off, A = some ⟨b, off, none⟩ ∧ RowAt w b (off + k * 12) l[k] := by
  obtain ⟨b, off, hA, hb, hrow⟩ := h.1.at hk
  refine ⟨b, off, hA, hb, fun w' hw => ?_⟩
  have hr := hrow.below hw hb
  refine ⟨hr k hk 0 _ rfl, hr k hk 1 _ rfl, fun j u hu => ?_⟩
  have hj : j < 10 := (Array.getElem?_eq_some_iff.1 hu).1
  have := hr k hk (2 + j) u (by
    unfold LR.cells
    rw [List.getElem?_append_right (by simp)]
    simpa using hu)
  rwa [show off + k * 12 + (2 + j) = off + k * 12 + 2 + j by omega] at this
theorem RowAt.below {w w' : World} {b o : Nat} {x : LR} (h : RowAt w b o x) (hb : Below w.heap.size w w') : RowAt w' b o x := ⟨Nat.lt_of_lt_of_le h.1 hb.size, fun w2 h2 => h.2 w2 (hb.trans (h2.mono hb.size))⟩
end Go.Proofs.Ytjhndilflcigiaa
namespace Go.Proofs.Ytjhndilflcigiaa
open Go.RowKit

/-- A slice does not lie in block g. -/
def Off {α : Type} (g : Nat) (A : Option Addr) (l : List α) : Prop := l = [] ∨ ∀ ad, A = some ad → ad.block ≠ g
def OffRw (g : Nat) (A : Option Addr) (l : List LR) : Prop := Off g A l ∧ ∀ x ∈ l, Off g x.2.1 x.1.a.f
theorem In.off_store {α : Type} {k : Nat} {cs : α → List Value} {A : Option Addr} {c : Nat} {f : List α} {w w' : World} {g : Nat} (h : In k cs w A c f) (hf : Off g A f) (hk : Kept (some g) w.heap.size w w') : In k cs w' A c f := by
  refine ⟨h.1, h.2.1, h.2.2.1, ?_⟩
  rcases h.2.2.2 with h0 | ⟨b, off, rfl, hb, hr⟩
  · exact .inl h0
  · rcases hf with h0 | hf
    · exact .inl h0
    · have hne := hf _ rfl
      exact .inr ⟨b, off, rfl, Nat.lt_of_lt_of_le hb hk.size, hr.keep fun o => hk.cell (by exact hb) (fun e => by injection e with e; exact hne e.symm)⟩
theorem InRw.off_store {A : Option Addr} {c : Nat} {l : List LR} {w w' : World} {g : Nat} (h : InRw w A c l) (hf : OffRw g A l) (hk : Kept (some g) w.heap.size w w') : InRw w' A c l :=
  ⟨h.1.off_store hf.1 hk, fun x hx => (h.2 x hx).off_store (hf.2 x hx) hk⟩
/-- Rows and a second result, handed back: they lie where they lay, or in a new block. -/
def RetRw (w : World) (B : Option Addr) (l0 : List LR) (A0 : Option Addr) (f0 : List Node) (l : List LRow) (v : Value) (e : Ending) (w' : World) : Prop :=
  ∃ A c l', e = .returned (.tuple #[.slice A 6 c, v]) ∧ InRw w' A c l' ∧ rowsOf l' = l ∧ Below w.heap.size w w' ∧ ∀ g0, g0 < w.heap.size → OffRw g0 B l0 → Off g0 A0 f0 → OffRw g0 A l'
theorem RetRw.len {_l l' : List LR} {r : List LRow} (h : rowsOf l' = r) (hr : r.length = 6) : l'.length = 6 := by rw [← hr, ← h]; unfold rowsOf; simp
end Go.Proofs.Ytjhndilflcigiaa
namespace Go.Proofs.Ytjhndilflcigiaa
open Go.RowKit

theorem rows_eq_len {l m : List LR} (h : rowsOf l = rowsOf m) : l.length = m.length := by have := congrArg List.length h; simpa [rowsOf] using this
end Go.Proofs.Ytjhndilflcigiaa
namespace Go.Proofs.Ytjhndilflcigiaa
open Go.RowKit

abbrev lz : List LR := List.replicate 6 (⟨0, 0, rz⟩, none, 0)
theorem Lg.new {w : World} {g : Nat} (h : Blk w g (lgArr lz)) : Lg w g lz := ⟨rfl, h, fun x hx => by
  have := List.eq_of_mem_replicate hx
  subst this
  exact ⟨In.nil (by decide), .inl rfl⟩⟩
abbrev a30 : Rep := ⟨4, 0, 3, 0, 0, 0, 9, 0, [], 0⟩
abbrev r30 : List LRow := noteL (rowsOf lz) a30
theorem a30_ok : noteOk (rowsOf lz) a30 = true := by decide +kernel
theorem a30_1 : askE r30 0 2 = 13 := by decide +kernel
theorem a30_2 : askE r30 0 3 = 7 := by decide +kernel
theorem a30_3 : askE r30 0 4 = 0 := by decide +kernel
theorem a30_4 : askA r30 0 3 = a30 := by decide +kernel
set_option maxHeartbeats 2000000 in
set_option maxRecDepth 4000 in
theorem c_law30_awake (w : World) : Calls Try.prog 17 #[] w (RetV w (.bool true)) := by
  go_enter Try.func17, Try.ntmps17
  go_wp2_with (fail)
  refine (c_ledger_New _).mono ?_
  rintro e w1 ⟨rfl, bg, hb1⟩
  have L1 := Lib.hid (Lg.new bg)
  have H1 := Lib.hid hb1
  have hg1 := bg.lt
  obtain ⟨g, hg⟩ : ∃ g, g = w.heap.size := ⟨_, rfl⟩
  rw [← hg] at L1 hg1 ⊢
  have HG := Lib.hid hg
  clear bg hb1 hg
  go_wp2_with (with_reducible refine stop_store 47 (.tmp 2) (.tmp 11) rfl rfl ?_)
  refine Stop.mk (wpList_storeB rfl _ _ _ rfl w1.heap.size (a30.arr none 0) rfl rfl _ (Blk.new _ _ _) strRp rfl rfl (by simp [Value.oneCell']) ?_)
  intro w2 hb2 hk2
  have hB2 := fresh_below hk2
  have L2 := Lib.hid (L1.out.below hB2)
  have H2 := Lib.hid (H1.out.trans (hB2.mono H1.out.size))
  have B2 := Lib.hid hb2
  obtain ⟨p, hp⟩ : ∃ p, p = w1.heap.size := ⟨_, rfl⟩
  have hgp : g < p := by rw [hp]; exact hg1
  rw [← hp] at B2 ⊢
  clear hb2 hk2 hB2 L1 H1 hg1 hp
  go_wp2_with (with_reducible refine stop_load 47 (.tmp 2) rfl rfl ?_)
  refine Stop.mk (wpList_loadB rfl _ _ rfl p rfl _ B2.out strRp rfl ?_)
  go_wp2_with (fail)
  refine (c_ledger_Note g lz a30 none 0 _ L2.out (In.nil (by omega)) (by simp) (by decide) (by simp)).mono ?_
  rintro e w3 ⟨rfl, hk3, l3, hl3, hr3, -⟩
  rw [a30_ok]
  have L3 := Lib.hid hl3
  have R3 := Lib.hid hr3
  have H3 := Lib.hid (H2.out.trans (hk3.oneB H2.out.size (by have := HG.out; omega)))
  have B3 := Lib.hid (B2.out.kept hk3 B2.out.lt (by simp; omega))
  clear hk3 hl3 hr3 L2 H2 B2
  have ask := fun (req : Int) (w' : World) (h : Lg w' g l3) => c_ledger_Ask g l3 0 req w' h
  have HA := Lib.hid ask
  clear ask
  go_wp2_with (fail)
  refine (HA.out 2 _ L3.out).mono ?_
  rintro e w4 ⟨A4, c4, rfl, -, hb4⟩
  rw [R3.out, a30_1]
  go_wp2_with (with_reducible refine stop_store 47 (.tmp 4) (.tmp 18) rfl rfl ?_)
  refine Stop.mk (wpList_storeB rfl _ _ _ rfl w4.heap.size _ rfl rfl _ (Blk.new _ _ _) strRp rfl rfl (by simp [Value.oneCell']) ?_)
  intro w5 hb5 hk5
  have hB5 := hb4.trans ((fresh_below hk5).mono hb4.size)
  have L5 := Lib.hid (L3.out.below hB5)
  have H5 := Lib.hid (H3.out.trans (hB5.mono H3.out.size))
  have B5 := Lib.hid (B3.out.below hB5 B3.out.lt)
  clear hb4 hb5 hk5 hB5 L3 H3 B3
  go_wp2_with (fail)
  refine (HA.out 3 _ L5.out).mono ?_
  rintro e w6 ⟨A6, c6, rfl, own6, hb6⟩
  rw [R3.out, a30_2]
  rw [R3.out, a30_4] at own6
  rw [a30_4]
  go_wp2_with (with_reducible refine stop_store 47 (.tmp 6) (.tmp 23) rfl rfl ?_)
  refine Stop.mk (wpList_storeB rfl _ _ _ rfl w6.heap.size _ rfl rfl _ (Blk.new _ _ _) strRp rfl rfl (by simp [Value.oneCell']) ?_)
  intro w7 hb7 hk7
  have hB7 := hb6.trans ((fresh_below hk7).mono hb6.size)
  have L7 := Lib.hid (L5.out.below hB7)
  have H7 := Lib.hid (H5.out.trans (hB7.mono H5.out.size))
  have B7 := Lib.hid (B5.out.below hB7 B5.out.lt)
  have C7 := Lib.hid (show Blk w7 w6.heap.size (a30.arr A6 c6) from hb7)
  clear hb6 hb7 hk7 hB7 L5 H5 B5
  obtain ⟨q, hq⟩ : ∃ q, q = w6.heap.size := ⟨_, rfl⟩
  rw [← hq] at C7 ⊢
  clear hq
  go_wp2_with (fail)
  refine (HA.out 4 _ L7.out).mono ?_
  rintro e w8 ⟨A8, c8, rfl, -, hb8⟩
  rw [R3.out, a30_3]
  go_wp2_with (with_reducible refine stop_store 47 (.tmp 8) (.tmp 28) rfl rfl ?_)
  refine Stop.mk (wpList_storeB rfl _ _ _ rfl w8.heap.size _ rfl rfl _ (Blk.new _ _ _) strRp rfl rfl (by simp [Value.oneCell']) ?_)
  intro w9 hb9 hk9
  have hB9 := hb8.trans ((fresh_below hk9).mono hb8.size)
  have H9 := Lib.hid (H7.out.trans (hB9.mono H7.out.size))
  have B9 := Lib.hid (B7.out.below hB9 B7.out.lt)
  have C9 := Lib.hid (C7.out.below hB9 C7.out.lt)
  clear hb8 hb9 hk9 hB9 L7 H7 B7 C7
  go_wp2_with (with_reducible refine stop_loadG 47 (.tmp 6) rfl ?_)
  refine Stop.mk (wpList_loadAtG (by rfl) _ _ rfl q 0 rfl (a30.arr A6 c6) C9.out.all strRp rfl ?_)
  go_wp2_with (with_reducible refine stop_loadG 47 (.tmp 2) rfl ?_)
  refine Stop.mk (wpList_loadAtG (by rfl) _ _ rfl p 0 rfl (a30.arr none 0) B9.out.all strRp rfl ?_)
  go_wp2_with (fail)
  refine (c_ref30_Same a30 a30 A6 none c6 0 _ ?_ (In.nil (by omega))).mono ?_
  · exact In.nil (by
      have := own_form own6
      obtain ⟨_, _, hv, _, hc⟩ := this
      injection hv with _ _ hcc
      omega)
  rintro e w10 ⟨rfl, hb10⟩
  rw [decide_eq_true (rfl : a30 = a30)]
  go_wp2_with (fail)
  go_ret
  exact RetV.bool rfl (H9.out.trans (hb10.mono H9.out.size))
end Go.Proofs.Ytjhndilflcigiaa
namespace Go.Proofs.Ytjhndilflcigiaa
open Go.RowKit

theorem In.own3R {α : Type} {k : Nat} {cs : α → List Value} {w : World} {base : Nat} {e : TypeId} {A : Option Addr} {c : Nat} {l : List α} (hk : ∀ x, (cs x).length = k) (h : w.ownsRow base e k (.slice A l.length c) l.length (l.flatMap cs)) (hs : l.length ≤ 4294967296) : In k cs w A c l := by
  obtain ⟨A', c', hv, hin⟩ := In.of_own hk h hs
  injection hv with e1 _ e2
  subst e1 e2
  exact hin
/-- An act: its kind, an answer. -/
structure Dl where
  kind : Int
  a : Rep
abbrev DL := Dl × Option Addr × Nat
def DL.cells (x : DL) : List Value := [.int .i64 x.1.kind] ++ (x.1.a.arr x.2.1 x.2.2).toList
theorem DL.cells_len (x : DL) : (DL.cells x).length = 11 := rfl
/-- A filter that came in, of whatever length. -/
structure Flt (w : World) (A : Option Addr) (c : Nat) (f : List Node) : Prop where
  big : ∀ w', Below w.heap.size w w' → Calls Try.prog 16 #[.slice A f.length c] w' (RetV w' (.bool (large f)))
  inn : large f = false → InN w A c f
  shs : large f = false → ∀ x ∈ f, x.v.s.length ≤ 4294967000
theorem Flt.len {w : World} {A : Option Addr} {c : Nat} {f : List Node} (_ : Flt w A c f) (h : large f = false) : f.length ≤ 1000000 := by have := (large_short h).1; omega
structure InD (w : World) (A : Option Addr) (c : Nat) (l : List DL) : Prop where
  le : l.length ≤ c
  cap : c ≤ 9223372036854775807
  row : l = [] ∨ ∃ b off, A = some ⟨b, off, none⟩ ∧ b < w.heap.size ∧ Row 11 DL.cells w b off l
  flt : ∀ x ∈ l, Flt w x.2.1 x.2.2 x.1.a.f
  msk : ∀ x ∈ l, x.1.a.mask < 4294967296
/-- Where an act lies, and what its cells are. -/
def ActAt (w : World) (b o : Nat) (x : DL) : Prop := b < w.heap.size ∧ ∀ w', Below w.heap.size w w' → w'.cell? ⟨b, o, none⟩ = some (.int .i64 x.1.kind) ∧ ∀ j u, (x.1.a.arr x.2.1 x.2.2)[j]? = some u → w'.cell? ⟨b, o + 1 + j, none⟩ = some u
theorem InD.at {w : World} {A : Option Addr} {c : Nat} {l : List DL} (h : InD w A c l) {k : Nat} (hk : k < l.length) : ∃ b off, A = some ⟨b, off, none⟩ ∧ ActAt w b (off + k * 11) l[k] := by
  rcases h.row with h0 | ⟨b, off, hA, hb, hrow⟩
  · subst h0; simp at hk
  · refine ⟨b, off, hA, hb, fun w' hw => ?_⟩
    have hr := hrow.below hw hb
    refine ⟨hr k hk 0 _ rfl, fun j u hu => ?_⟩
    have := hr k hk (1 + j) u (by
      unfold DL.cells
      rw [List.getElem?_append_right (by simp)]
      simpa using hu)
    rwa [show off + k * 11 + (1 + j) = off + k * 11 + 1 + j by omega] at this
theorem In.off {α : Type} {k : Nat} {cs : α → List Value} {A : Option Addr} {c : Nat} {f : List α} {w : World} {g : Nat} (h : In k cs w A c f) (hg : w.heap.size ≤ g) : Off g A f := by
  rcases h.2.2.2 with h0 | ⟨b, off, rfl, hb, hr⟩
  · exact .inl h0
  · right; intro ad had; injection had with had; rw [← had]; show b ≠ g; omega
/-- The program's ledger and the reference's rows, side by side. -/
structure LP (w wr : World) (g : Nat) (lg lm : List LR) (A : Option Addr) (c : Nat) : Prop where
  below : Below w.heap.size w wr
  og : w.heap.size ≤ g
  L : Lg wr g lg
  M : InRw wr A c lm
  off : OffRw g A lm
  eq : rowsOf lg = rowsOf lm
  pos : ∀ x ∈ rowsOf lg, 0 ≤ x.ep
  fit : ∀ x ∈ rowsOf lg, x.a.f.length ≤ 1000000
theorem rowAt_mem {l : List LRow} {d : Int} (p : LRow → Prop) (h : ∀ x ∈ l, p x) (h0 : p ⟨0, 0, rz⟩) : p (rowAt l d) := by
  unfold rowAt
  rw [List.getD_eq_getElem?_getD]
  cases hx : l[d.toNat]? with
  | none => exact h0
  | some x => exact h x (List.mem_of_getElem? hx)
theorem noteL_all {l : List LRow} {a : Rep} (p : LRow → Prop) (h : ∀ x ∈ l, p x) (hn : p ⟨a.req, (rowAt l a.dev).ep, a⟩) : ∀ x ∈ noteL l a, p x := by
  unfold noteL
  split
  · intro x hx
    rcases List.mem_or_eq_of_mem_set hx with hx | rfl
    · exact h x hx
    · exact hn
  · exact h
theorem raiseL_all {l : List LRow} {d : Int} (p : LRow → Prop) (h : ∀ x ∈ l, p x) (hn : p ⟨(rowAt l d).last, (rowAt l d).ep + 1, (rowAt l d).a⟩) : ∀ x ∈ raiseL l d, p x := by
  unfold raiseL
  split
  · intro x hx
    rcases List.mem_or_eq_of_mem_set hx with hx | rfl
    · exact h x hx
    · exact hn
  · exact h
section
variable {w wr w1 w2 : World} {g : Nat} {lg lm lg' lm' : List LR} {A A' : Option Addr} {c c' : Nat}
theorem LP.step (h : LP w wr g lg lm A c) (hb : Below wr.heap.size wr w1) : LP w w1 g lg lm A c :=
  ⟨h.below.trans (hb.mono h.below.size), h.og, h.L.below hb, h.M.below hb, h.off, h.eq, h.pos, h.fit⟩
theorem LP.len (h : LP w wr g lg lm A c) : lm.length = 6 := by rw [← rows_eq_len h.eq]; exact h.L.1
theorem LP.turn (h : LP w wr g lg lm A c) (hb : Below wr.heap.size wr w1) (hM : InRw w1 A' c' lm') (ho : OffRw g A' lm') (hk : Kept (some g) w1.heap.size w1 w2) (hL : Lg w2 g lg') (he : rowsOf lg' = rowsOf lm')
    (hp : ∀ x ∈ rowsOf lg', 0 ≤ x.ep) (hf : ∀ x ∈ rowsOf lg', x.a.f.length ≤ 1000000) : LP w w2 g lg' lm' A' c' :=
  have h1 := h.below.trans (hb.mono h.below.size)
  ⟨h1.trans (hk.oneB h1.size h.og), h.og, hL, hM.off_store ho hk, ho, he, hp, hf⟩
theorem LP.raise (h : LP w wr g lg lm A c) {d : Int} (hb : Below wr.heap.size wr w1) (hM : InRw w1 A' c' lm') (r1 : rowsOf lm' = raiseL (rowsOf lm) d) (ho : OffRw g A' lm') (hk : Kept (some g) w1.heap.size w1 w2) (hL : Lg w2 g lg') (r2 : rowsOf lg' = raiseL (rowsOf lg) d) : LP w w2 g lg' lm' A' c' :=
  h.turn hb hM ho hk hL (by rw [r1, r2, h.eq]) (by rw [r2]; exact raiseL_all (fun x => 0 ≤ x.ep) h.pos (by have := rowAt_mem (d := d) (fun x => 0 ≤ x.ep) h.pos (by simp); simp only at this ⊢; omega))
    (by rw [r2]; exact raiseL_all (fun x => x.a.f.length ≤ 1000000) h.fit (rowAt_mem (fun x => x.a.f.length ≤ 1000000) h.fit (by simp)))
/-- .. and the blocks of a round's own. -/
def LS (w wr : World) (g : Nat) (lg lm : List LR) (A : Option Addr) (c : Nat) (bl : List (Nat × Array Value)) : Prop := LP w wr g lg lm A c ∧ ∀ x ∈ bl, g < x.1 ∧ Blk wr x.1 x.2
variable {bl : List (Nat × Array Value)}
theorem LS.step (h : LS w wr g lg lm A c bl) (hb : Below wr.heap.size wr w1) : LS w w1 g lg lm A c bl := ⟨h.1.step hb, fun x hx => ⟨(h.2 x hx).1, (h.2 x hx).2.below hb (h.2 x hx).2.lt⟩⟩
theorem LS.new (h : LS w wr g lg lm A c bl) {cs : Array Value} {o : Obj} (B : Blk w1 wr.heap.size cs) (k : Kept (some wr.heap.size) (wr.alloc o).heap.size (wr.alloc o) w1) : LS w w1 g lg lm A c ((wr.heap.size, cs) :: bl) := by
  have h1 := h.step (fresh_below k)
  refine ⟨h1.1, fun x hx => ?_⟩
  rcases List.mem_cons.1 hx with rfl | hx
  · exact ⟨h.1.L.2.1.lt, B⟩
  · exact h1.2 x hx
theorem LS.b0 {x : Nat} {cs : Array Value} (h : LS w wr g lg lm A c ((x, cs) :: bl)) : Blk wr x cs := (h.2 _ (List.mem_cons_self ..)).2
theorem LS.b1 {x y : Nat} {cs ds : Array Value} (h : LS w wr g lg lm A c ((y, ds) :: (x, cs) :: bl)) : Blk wr x cs := (h.2 (x, cs) (by simp)).2
theorem LS.b2 {x y z : Nat} {cs ds es : Array Value} (h : LS w wr g lg lm A c ((z, es) :: (y, ds) :: (x, cs) :: bl)) : Blk wr x cs := (h.2 (x, cs) (by simp)).2
theorem LS.drop (h : LS w wr g lg lm A c bl) : LS w wr g lg lm A c [] := ⟨h.1, fun _ hx => by cases hx⟩
end
end Go.Proofs.Ytjhndilflcigiaa
