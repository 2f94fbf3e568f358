/-
  Lemmas (walks and plain laws), in one text.
-/
import Derived.Test.YtjhndilflcigiaaDoorQc18
import Derived.Test.YtjhndilflcigiaaDoorRows
import Derived.WalkKit
import Derived.WalkSpells
import Derived.WalkLawsBesides
import Derived.Lib.Hide
import Derived.Deep.QuietTactic
import Derived.BigQuiet
import Derived.Maps.AppendAt
import Derived.WalkSmall
import Derived.ProofKit
import Derived.OpenShut
import Derived.JoinedCond
import Derived.Deep.Slices
import Derived.Deep.Fields
import Derived.Carry
import Derived.Deep.AppendSrc
import Derived.Lib.AppendStr
import Derived.Laws.BytesArg
import Derived.Test.YtjhndilflcigiaaDoorProg
import Derived.Shelf.Spec.TrailingZeros
import Derived.RangeFuncNested
import Derived.RangeFuncBound
import Derived.RangeFuncCalls
import Derived.RangeFuncLeaves
import Derived.Shelf.Abstract
import Derived.Shelf.RegionOpen
import Derived.OwnWalkIn
import Derived.TacticsInMore
import Derived.LoopNIn
import Derived.LoopIn
import Derived.Test.YtjhndilflcigiaaDoorTie
import Derived.Lib.LaidTab
import Derived.LaidMore
import Derived.SevenTiedAt
import Derived.Test.YtjhndilflcigiaaDoorCards
import Derived.Laws.Tables
import Derived.Laws.Rows
import Derived.ChangeKeysEq
import Derived.Laws.StructEq
import Derived.Deep.CutBlock
import Derived.Deep.DeepCutAuto
import Derived.Laws.CopyOwn
import Derived.Outline
import Derived.IntWalk
import Derived.Lib.EndianBits
import Derived.StillTail
import Derived.Lib.AppendZeros
import Derived.Deep.Quiet
import Derived.Maps.Own
import Derived.WalkMore
namespace Go.Proofs.YtjhndilflcigiaaDoor
open Go.RowKit

theorem At.edit {w w1 : World} {e : Edit} (h : At w w1 e.arr) : w1.cell? ⟨w.heap.size, 0, none⟩ = some (.int .i64 e.kind) ∧ w1.cell? ⟨w.heap.size, 1, none⟩ = some (.int .i64 e.id) ∧ w1.cell? ⟨w.heap.size, 2, none⟩ = some (.int .i64 e.group) := by
  obtain ⟨h0, h1, h2⟩ := e.arr_head
  exact ⟨h.2.cell h0, h.2.cell h1, h.2.cell h2⟩
theorem gOk_bad {e : Edit} (h : ¬ e.gOk = true) : (e.group < 0) ∨ (0 ≤ e.group ∧ 16 ≤ e.group) ∨ (0 < e.group ∧ e.group < 16 ∧ hasG e.kind = false) := by
  unfold Edit.gOk at h
  cases hh : hasG e.kind
  all_goals
    rw [hh] at h
    simp only [Bool.and_eq_true, Bool.or_eq_true, decide_eq_true_eq, Bool.false_eq_true, false_or, true_or, and_true] at h
  · have : (e.group < 0) ∨ (0 ≤ e.group ∧ 16 ≤ e.group) ∨ (0 < e.group ∧ e.group < 16) := by omega
    rcases this with a | a | ⟨a, b⟩
    · exact .inl a
    · exact .inr (.inl a)
    · exact .inr (.inr ⟨a, b, rfl⟩)
  · have : (e.group < 0) ∨ (0 ≤ e.group ∧ 16 ≤ e.group) := by omega
    rcases this with a | a
    · exact .inl a
    · exact .inr (.inl a)
theorem gOk_ok {e : Edit} (h : e.gOk = true) : 0 ≤ e.group ∧ e.group < 16 ∧ (e.group = 0 ∨ (0 < e.group ∧ hasG e.kind = true)) := by
  unfold Edit.gOk at h
  cases hh : hasG e.kind
  all_goals
    rw [hh] at h
    simp only [Bool.and_eq_true, Bool.or_eq_true, decide_eq_true_eq, Bool.false_eq_true, false_or, true_or, and_true] at h
  · exact ⟨h.1.1, h.1.2, .inl h.2⟩
  · refine ⟨h.1, h.2, ?_⟩
    by_cases h0 : e.group = 0
    · exact .inl h0
    · exact .inr ⟨by omega, rfl⟩
theorem iOk_bad {e : Edit} (h : ¬ e.iOk = true) : (hasI e.kind = true ∧ e.id < 1) ∨ (hasI e.kind = true ∧ 1 ≤ e.id ∧ 1073741824 ≤ e.id) ∨ (hasI e.kind = false ∧ e.id ≠ 0) := by
  unfold Edit.iOk at h
  cases hh : hasI e.kind
  · rw [hh] at h
    exact .inr (.inr ⟨rfl, by simpa using h⟩)
  · rw [hh] at h
    simp only [if_true, decide_eq_true_eq] at h
    have : e.id < 1 ∨ (1 ≤ e.id ∧ 1073741824 ≤ e.id) := by omega
    rcases this with a | a
    · exact .inl ⟨rfl, a⟩
    · exact .inr (.inl ⟨rfl, a⟩)
theorem iOk_ok {e : Edit} (h : e.iOk = true) : (hasI e.kind = true ∧ 1 ≤ e.id ∧ e.id < 1073741824) ∨ (hasI e.kind = false ∧ e.id = 0) := by
  unfold Edit.iOk at h
  cases hh : hasI e.kind
  · rw [hh] at h
    exact .inr ⟨rfl, by simpa using h⟩
  · rw [hh] at h
    simp only [if_true, decide_eq_true_eq] at h
    exact .inl ⟨rfl, h⟩
set_option maxHeartbeats 1000000 in
theorem edit_Check_kind (e : Edit) (w : World) (hk : ¬ (1 ≤ e.kind ∧ e.kind ≤ 7)) : Calls Tryd.prog 90 #[.agg e.arr] w (RetV w (.int .i64 e.code)) := by
  have E := Lib.hid (Edit.code_kind hk)
  have BC := Lib.hid (At.new w 29 e.arr)
  obtain ⟨q0, q1, q2⟩ := BC.out.edit
  have hk' : e.kind < 1 ∨ (1 ≤ e.kind ∧ 7 < e.kind) := by omega
  clear hk
  rcases hk' with hk | ⟨hk, hk2⟩
  · have k1 : decide (e.kind < 1) = true := by simpa using hk
    clear hk
    go_enter Tryd.func90, Tryd.ntmps90
    go_wp2_with (fail)
    go_ret
    exact RetV.int E.out.symm BC.out.1
  · have k1 : decide (e.kind < 1) = false := by simpa using hk
    have k2 : decide (7 < e.kind) = true := by simpa using hk2
    clear hk hk2
    go_enter Tryd.func90, Tryd.ntmps90
    go_wp2_with (fail)
    go_ret
    exact RetV.int E.out.symm BC.out.1
set_option maxHeartbeats 1000000 in
set_option maxRecDepth 4000 in
theorem edit_Check_g (e : Edit) (w : World) (h1 : 1 ≤ e.kind) (h7 : e.kind ≤ 7) (hg : ¬ e.gOk = true) : Calls Tryd.prog 90 #[.agg e.arr] w (RetV w (.int .i64 e.code)) := by
  have E := Lib.hid (Edit.code_g (by simpa using hg))
  have BC := Lib.hid (At.new w 29 e.arr)
  obtain ⟨q0, q1, q2⟩ := BC.out.edit
  have k1 : decide (e.kind < 1) = false := by simpa using h1
  have k2 : decide (7 < e.kind) = false := by simpa using h7
  rcases gOk_bad hg with hg | ⟨hg, hg2⟩ | ⟨hg, hg2, hg3⟩
  · have k3 : decide (e.group < 0) = true := by simpa using hg
    clear hg
    go_enter Tryd.func90, Tryd.ntmps90
    go_wp2_with (fail)
    go_ret
    exact RetV.int E.out.symm BC.out.1
  · have k3 : decide (e.group < 0) = false := by simpa using hg
    have k4 : decide (16 ≤ e.group) = true := by simpa using hg2
    clear hg hg2
    go_enter Tryd.func90, Tryd.ntmps90
    go_wp2_with (fail)
    go_ret
    exact RetV.int E.out.symm BC.out.1
  · have k3 : decide (e.group < 0) = false := by simp; omega
    have k4 : decide (16 ≤ e.group) = false := by simpa using hg2
    have k5 : decide (0 < e.group) = true := by simpa using hg
    have j1 : hasW e.kind 1 = false := hg3
    clear hg hg2
    go_enter Tryd.func90, Tryd.ntmps90
    go_wp2_with (go_at_call 94; refine (c_edit_has e.kind _ _ (by omega) h7 (by decide)).mono ?_; rintro e1 w1 ⟨rfl, hb1⟩; replace BC := Lib.hid (BC.out.step hb1); clear q0 q1 q2; obtain ⟨q0, q1, q2⟩ := BC.out.edit)
    go_ret
    exact RetV.int E.out.symm BC.out.1
set_option maxHeartbeats 2000000 in
set_option maxRecDepth 4000 in
theorem edit_Check_i (e : Edit) (w : World) (h1 : 1 ≤ e.kind) (h7 : e.kind ≤ 7) (hg : e.gOk = true) (hi : ¬ e.iOk = true) : Calls Tryd.prog 90 #[.agg e.arr] w (RetV w (.int .i64 e.code)) := by
  have E := Lib.hid (Edit.code_i (by simpa using hi))
  have BC := Lib.hid (At.new w 29 e.arr)
  obtain ⟨q0, q1, q2⟩ := BC.out.edit
  have k1 : decide (e.kind < 1) = false := by simpa using h1
  have k2 : decide (7 < e.kind) = false := by simpa using h7
  obtain ⟨g1, g2, g3⟩ := gOk_ok hg
  have k3 : decide (e.group < 0) = false := by simp; omega
  have k4 : decide (16 ≤ e.group) = false := by simpa using g2
  rcases g3 with g3 | ⟨g3, g4⟩
  all_goals
    first
    | (have k5 : decide (0 < e.group) = false := by simp; omega)
    | (have k5 : decide (0 < e.group) = true := by simpa using g3
       have j1 : hasW e.kind 1 = true := g4)
    clear g1 g2 g3 hg
    rcases iOk_bad hi with ⟨i1, i2⟩ | ⟨i1, i2, i3⟩ | ⟨i1, i2⟩
    all_goals
      first
      | (have k6 : decide (e.id < 1) = true := by simpa using i2
         have j2 : hasW e.kind 2 = true := i1)
      | (have k6 : decide (e.id < 1) = false := by simpa using i2
         have k7 : decide (1073741824 ≤ e.id) = true := by simpa using i3
         have j2 : hasW e.kind 2 = true := i1
         clear i3)
      | (have k6 : (e.id != 0) = true := by simpa using i2
         have j2 : hasW e.kind 2 = false := i1)
      clear i2 hi
      go_enter Tryd.func90, Tryd.ntmps90
      go_wp2_with (first
        | (go_at_call 94; refine (c_edit_has e.kind _ _ (by omega) h7 (by decide)).mono ?_; rintro e1 w1 ⟨rfl, hb1⟩; replace BC := Lib.hid (BC.out.step hb1); clear q0 q1 q2; obtain ⟨q0, q1, q2⟩ := BC.out.edit))
      go_ret
      exact RetV.int E.out.symm BC.out.1
set_option maxHeartbeats 4000000 in
set_option maxRecDepth 4000 in
theorem edit_Check_p (e : Edit) (w : World) (hf : e.p.f.length = 8) (hs : ∀ x ∈ e.p.f, x.s.length ≤ 4294967000) (hm : e.p.mask < 4294967296) (h1 : 1 ≤ e.kind) (h7 : e.kind ≤ 7) (hg : e.gOk = true) (hi : e.iOk = true) : Calls Tryd.prog 90 #[.agg e.arr] w (RetV w (.int .i64 e.code)) := by
  have E := Lib.hid (Edit.code_p h1 h7 hg hi)
  have BC := Lib.hid (At.new w 29 e.arr)
  have HF := Lib.hid hf
  have hsz : e.p.arr.size = 26 := by rw [Patch.arr_size, hf]
  have HZ := Lib.hid hsz
  clear hsz hf
  obtain ⟨q0, q1, q2⟩ := BC.out.edit
  have k1 : decide (e.kind < 1) = false := by simpa using h1
  have k2 : decide (7 < e.kind) = false := by simpa using h7
  obtain ⟨g1, g2, g3⟩ := gOk_ok hg
  have k3 : decide (e.group < 0) = false := by simp; omega
  have k4 : decide (16 ≤ e.group) = false := by simpa using g2
  rcases g3 with g3 | ⟨g3, g4⟩
  all_goals
    first
    | (have k5 : decide (0 < e.group) = false := by simp; omega)
    | (have k5 : decide (0 < e.group) = true := by simpa using g3
       have j1 : hasW e.kind 1 = true := g4)
    clear g1 g2 g3 hg
    rcases iOk_ok hi with ⟨i1, i2, i3⟩ | ⟨i1, i2⟩
    all_goals
      first
      | (have k6 : decide (e.id < 1) = false := by simpa using i2
         have k7 : decide (1073741824 ≤ e.id) = false := by simpa using i3
         have j2 : hasW e.kind 2 = true := i1
         clear i3)
      | (have k6 : (e.id != 0) = false := by simpa using i2
         have j2 : hasW e.kind 2 = false := i1)
      clear i2 hi
      cases hp : hasP e.kind
      · have j4 : hasW e.kind 4 = false := hp
        cases hz : decide (e.p = pz)
        all_goals
          go_enter Tryd.func90, Tryd.ntmps90
          go_wp2_with (first
            | (with_reducible refine stop_load 27 (.tmp 65) rfl rfl ?_)
            | (go_at_call 94; refine (c_edit_has e.kind _ _ (by omega) h7 (by decide)).mono ?_; rintro e1 w1 ⟨rfl, hb1⟩; replace BC := Lib.hid (BC.out.step hb1); clear q0 q1 q2; obtain ⟨q0, q1, q2⟩ := BC.out.edit))
          refine Stop.mk (wpList_loadAt rfl _ _ rfl w.heap.size 3 rfl e.p.arr (Edit.part BC.out.2) strP HZ.out ?_)
          go_wp2_with (with_reducible refine stop_bin .neq 27 (.tmp 66) (.tmp 67) 27 rfl ?_)
          refine Stop.mk (wpList_neqS (by rfl) _ _ _ _ rfl e.p.arr pz.arr rfl (by rw [pz_cells]; rfl) gP _ ((eq_patch HF.out rfl 9996 _).trans (by rw [hz])) ?_)
          go_wp2_with (fail)
          go_ret
          exact RetV.int (by rw [E.out, hp, if_neg (by decide)]; first | rw [if_pos (of_decide_eq_true hz)] | rw [if_neg (of_decide_eq_false hz)]) BC.out.1
      · have j4 : hasW e.kind 4 = true := hp
        go_enter Tryd.func90, Tryd.ntmps90
        go_wp2_with (first
          | (with_reducible refine stop_load 27 (.tmp 61) rfl rfl ?_)
          | (go_at_call 94; refine (c_edit_has e.kind _ _ (by omega) h7 (by decide)).mono ?_; rintro e1 w1 ⟨rfl, hb1⟩; replace BC := Lib.hid (BC.out.step hb1); clear q0 q1 q2; obtain ⟨q0, q1, q2⟩ := BC.out.edit))
        refine Stop.mk (wpList_loadAt rfl _ _ rfl w.heap.size 3 rfl e.p.arr (Edit.part BC.out.2) strP HZ.out ?_)
        go_wp2_with (go_at_call 91; refine (c_card_CheckPatch e.p _ hm HF.out hs).mono ?_; rintro e1 w1 ⟨rfl, hb1⟩; replace BC := Lib.hid (BC.out.step hb1))
        go_ret
        exact RetV.int (by rw [E.out, hp]; rfl) BC.out.1
end Go.Proofs.YtjhndilflcigiaaDoor
namespace Go.Proofs.YtjhndilflcigiaaDoor
open Go.RowKit

set_option maxHeartbeats 1000000 in
theorem c_cardwire_above (p : Option Nat) (st : Rd) (most : Int) (w : World) (h : RdP w p st) : Calls Tryd.prog 119 #[ptr p, .int .i64 most] w (RetP p (rdAb' st most) w (.int .i64 (rdN st most))) := by
  by_cases h0 : rdN st most = 0
  · rw [rdAb'_zero h0]
    have k : (rdN st most == 0) = true := by simpa using h0
    clear h0
    go_enter Tryd.func119, Tryd.ntmps119
    go_wp2_with (fail)
    refine (c_octet_RNum p st most _ h).mono ?_
    rintro e w1 ⟨rfl, hr1, hk1⟩
    have hz1 := hk1.size
    go_wp2_with (fail)
    refine (c_octet_Fail p (rdN' st most) 3 _ hr1).mono ?_
    rintro e w2 ⟨rfl, hr2, hk2⟩
    have hz2 := hk2.size
    go_wp2_with (fail)
    go_ret
    exact ⟨rfl, hr2, (by repeat (first | exact Kept.refl _ _ _ | refine Kept.drew ?_ | refine Kept.alloc ?_ (by first | omega | (simp; done) | (simp; omega)) _ | refine Kept.setCell ?_ (by first | (right; rfl) | (left; first | omega | (simp; done) | (simp; omega))) _ | refine Kept.then_kept ?_ (by assumption) (by first | omega | (simp; done) | (simp; omega)) | refine Kept.then_below ?_ (by assumption) (by first | omega | (simp; done) | (simp; omega)) | refine Kept.low ?_ (by assumption)))⟩
  · rw [rdAb'_pos h0]
    have k : (rdN st most == 0) = false := by simpa using h0
    clear h0
    go_enter Tryd.func119, Tryd.ntmps119
    go_wp2_with (fail)
    refine (c_octet_RNum p st most _ h).mono ?_
    rintro e w1 ⟨rfl, hr1, hk1⟩
    have hz1 := hk1.size
    go_wp2_with (fail)
    go_ret
    exact ⟨rfl, hr1, (by repeat (first | exact Kept.refl _ _ _ | refine Kept.drew ?_ | refine Kept.alloc ?_ (by first | omega | (simp; done) | (simp; omega)) _ | refine Kept.setCell ?_ (by first | (right; rfl) | (left; first | omega | (simp; done) | (simp; omega))) _ | refine Kept.then_kept ?_ (by assumption) (by first | omega | (simp; done) | (simp; omega)) | refine Kept.then_below ?_ (by assumption) (by first | omega | (simp; done) | (simp; omega)) | refine Kept.low ?_ (by assumption)))⟩
set_option maxHeartbeats 1000000 in
theorem c_cardwire_labels (p : Option Nat) (st : Rd) (w : World) (h : RdP w p st) : Calls Tryd.prog 120 #[ptr p] w (RetP p (rdN' st 65535) w (.int .u32 (rdN st 65535).toNat)) := by
  have hb := rdN_bd st 65535
  go_enter Tryd.func120, Tryd.ntmps120
  go_wp2_with (fail)
  refine (c_octet_RNum p st 65535 _ h).mono ?_
  rintro e w1 ⟨rfl, hr1, hk1⟩
  have hz1 := hk1.size
  go_wp2_with (fail)
  go_ret
  have hc : ((rdN st 65535).toNat : Int) = rdN st 65535 := by omega
  rw [hc]
  exact ⟨rfl, hr1, (by repeat (first | exact Kept.refl _ _ _ | refine Kept.drew ?_ | refine Kept.alloc ?_ (by first | omega | (simp; done) | (simp; omega)) _ | refine Kept.setCell ?_ (by first | (right; rfl) | (left; first | omega | (simp; done) | (simp; omega))) _ | refine Kept.then_kept ?_ (by assumption) (by first | omega | (simp; done) | (simp; omega)) | refine Kept.then_below ?_ (by assumption) (by first | omega | (simp; done) | (simp; omega)) | refine Kept.low ?_ (by assumption)))⟩
/-! One field, by the closure. -/
theorem farr_put {f : List Val} {k : Nat} (h : k < f.length) (x : Val) : putAt (farr f) (k * 3) [.int .i64 x.kind, .int .i64 x.n, .string (str x.s)] = farr (f.set k x) := by
  have hs := farr_size f
  have hs' := farr_size (f.set k x)
  rw [List.length_set] at hs'
  apply Array.ext_getElem?
  intro i
  by_cases hi : i < f.length * 3
  · obtain ⟨q, r, hr, rfl⟩ : ∃ q r, r < 3 ∧ i = q * 3 + r := ⟨i / 3, i % 3, by omega, by omega⟩
    have hq : q < f.length := by omega
    obtain ⟨a0, a1, a2⟩ := farr_get (f := f.set k x) (k := q) (by rw [List.length_set]; exact hq)
    obtain ⟨b0, b1, b2⟩ := farr_get (f := f) (k := q) hq
    by_cases hk : q = k
    · subst hk
      have hp : (putAt (farr f) (q * 3) [.int .i64 x.kind, .int .i64 x.n, .string (str x.s)])[q * 3 + r]? = ([.int .i64 x.kind, .int .i64 x.n, .string (str x.s)] : List Value)[r]? := putAt_in _ _ _ r (by rw [hs]; simp; omega) (by simpa using hr)
      rw [hp]
      simp only [List.getElem_set_self] at a0 a1 a2
      obtain rfl | rfl | rfl : r = 0 ∨ r = 1 ∨ r = 2 := by omega
      · rw [Nat.add_zero, a0]; rfl
      · rw [a1]; rfl
      · rw [a2]; rfl
    · rw [putAt_far _ _ _ _ (by simp; omega)]
      rw [List.getElem_set_ne (fun e => hk e.symm)] at a0 a1 a2
      obtain rfl | rfl | rfl : r = 0 ∨ r = 1 ∨ r = 2 := by omega
      · rw [Nat.add_zero, a0, b0]
      · rw [a1, b1]
      · rw [a2, b2]
  · rw [Array.getElem?_eq_none (by rw [putAt_size, hs]; omega), Array.getElem?_eq_none (by rw [hs']; omega)]
/-- One field was read: the reader, the fields; the worlds on the way. -/
def RetOne (b : Bool) (p : Option Nat) (st : Rd) (f : List Val) (k bo : Nat) (w : World) (e : Ending) (w' : World) : Prop :=
  e = .returned (.tuple #[]) ∧ RdP w' p (fldS b st) ∧ Blk w' bo (farr (f.set k (rdVal st))) ∧ ∃ w1 w2, Kept p w.heap.size w w1 ∧ Kept (some bo) w1.heap.size w1 w2 ∧ Kept p w2.heap.size w2 w'
theorem farr_row {f : List Val} {w : World} {g : Nat} (h : Blk w g (farr f)) {k : Nat} (hk : k < f.length) : w.cell? ⟨g, k * 3, none⟩ = some (.int .i64 f[k].kind) := h.cell (farr_get hk).1
set_option maxHeartbeats 2000000 in
set_option maxRecDepth 4000 in
theorem c_fields_one (b : Bool) (p : Option Nat) (st : Rd) (f : List Val) (k bp bn bo : Nat) (w : World) (hf : f.length = 8) (hk : k < 8) (hr : RdP w p st) (hp : Blk w bp #[ptr p]) (hn : Blk w bn #[.bool b]) (ho : Blk w bo (farr f))
    (h1 : ∀ g, p = some g → g < bp) (h2 : bp < bn) (h3 : bn < bo) :
    Calls Tryd.prog 160 #[.int .i64 k, .pointer (some ⟨bp, 0, none⟩), .pointer (some ⟨bo, 0, none⟩), .pointer (some ⟨bn, 0, none⟩)] w (RetOne b p st f k bo w) := by
  have d1 : p ≠ some bp := fun e => by have := h1 _ e; omega
  have d2 : p ≠ some bn := fun e => by have := h1 _ e; omega
  have d3 : p ≠ some bo := fun e => by have := h1 _ e; omega
  have c0 := hp.cell (i := 0) rfl
  have HF := Lib.hid hf
  have hfs : (f.set k (rdVal st)).length = 8 := by rw [List.length_set]; exact hf
  have HS := Lib.hid hfs
  have hkf : k < f.length := by omega
  have HX := Lib.hid (show (f.set k (rdVal st))[k]'(by rw [List.length_set]; exact hkf) = rdVal st from List.getElem_set_self ..)
  clear hfs hf
  cases b
  case true =>
    have Fz := Lib.hid (fldS_true st)
    go_enter Tryd.func160, Tryd.ntmps160
    go_wp2_with (fail)
    refine (c_cardwire_Value p st _ hr).mono ?_
    rintro e w1 ⟨rfl, hr1, hk1⟩
    have hp1 := hp.kept hk1 hp.lt d1
    have hn1 := hn.kept hk1 hn.lt d2
    have O1 := Lib.hid (ho.kept hk1 ho.lt d3)
    unfold Val.val
    go_wp2_with (with_reducible refine stop_store 24 (.tmp 8) (.tmp 7) rfl rfl ?_)
    refine Stop.mk (wpList_storeAt rfl _ _ _ rfl bo (k * 3) _ rfl rfl _ O1.out strV rfl (by rw [farr_size, HF.out]; simp; omega) (by simp [Value.oneCell']) ?_)
    intro w2 hb2 hk2
    rw [farr_put (by have := HF.out; omega)] at hb2
    have O2 := Lib.hid hb2
    have hz2 := hk2.size
    have cn := (hn1.kept hk2 hn1.lt (by simp; omega)).cell (i := 0) rfl
    have hr2 : RdP w2 p (rdVal' st) := hr1.kept hk2 (fun g h hg hh => by injection hh with hh; have := h1 g hg; omega)
    clear hb2
    go_wp2_with (fail)
    go_end0
    exact ⟨rfl, by rw [Fz.out]; exact hr2, O2.out, w1, w2, hk1, hk2, Kept.refl _ _ _⟩
  case false =>
    by_cases hv : (rdVal st).kind = 0
    · have Fz := Lib.hid (fldS_zero hv)
      have kv : ((rdVal st).kind == 0) = true := by simpa using hv
      clear hv
      go_enter Tryd.func160, Tryd.ntmps160
      go_wp2_with (fail)
      refine (c_cardwire_Value p st _ hr).mono ?_
      rintro e w1 ⟨rfl, hr1, hk1⟩
      have hp1 := hp.kept hk1 hp.lt d1
      have hn1 := hn.kept hk1 hn.lt d2
      have O1 := Lib.hid (ho.kept hk1 ho.lt d3)
      unfold Val.val
      go_wp2_with (with_reducible refine stop_store 24 (.tmp 8) (.tmp 7) rfl rfl ?_)
      refine Stop.mk (wpList_storeAt rfl _ _ _ rfl bo (k * 3) _ rfl rfl _ O1.out strV rfl (by rw [farr_size, HF.out]; simp; omega) (by simp [Value.oneCell']) ?_)
      intro w2 hb2 hk2
      rw [farr_put (by have := HF.out; omega)] at hb2
      have O2 := Lib.hid hb2
      have hz2 := hk2.size
      have cn := (hn1.kept hk2 hn1.lt (by simp; omega)).cell (i := 0) rfl
      have cp := (hp1.kept hk2 hp1.lt (by simp; omega)).cell (i := 0) rfl
      have cv := farr_row hb2 (k := k) (by rw [HS.out]; exact hk)
      rw [HX.out] at cv
      have hr2 : RdP w2 p (rdVal' st) := hr1.kept hk2 (fun g h hg hh => by injection hh with hh; have := h1 g hg; omega)
      clear hb2
      go_wp2_with (fail)
      refine (c_octet_Fail p (rdVal' st) 3 _ hr2).mono ?_
      rintro e w3 ⟨rfl, hr3, hk3⟩
      have O3 := Lib.hid (O2.out.kept hk3 O2.out.lt d3)
      go_wp2_with (fail)
      go_end0
      exact ⟨rfl, by rw [Fz.out]; exact hr3, O3.out, w1, w2, hk1, hk2, hk3⟩
    · have Fz := Lib.hid (fldS_pos (b := false) hv)
      have kv : ((rdVal st).kind == 0) = false := by simpa using hv
      clear hv
      go_enter Tryd.func160, Tryd.ntmps160
      go_wp2_with (fail)
      refine (c_cardwire_Value p st _ hr).mono ?_
      rintro e w1 ⟨rfl, hr1, hk1⟩
      have hp1 := hp.kept hk1 hp.lt d1
      have hn1 := hn.kept hk1 hn.lt d2
      have O1 := Lib.hid (ho.kept hk1 ho.lt d3)
      unfold Val.val
      go_wp2_with (with_reducible refine stop_store 24 (.tmp 8) (.tmp 7) rfl rfl ?_)
      refine Stop.mk (wpList_storeAt rfl _ _ _ rfl bo (k * 3) _ rfl rfl _ O1.out strV rfl (by rw [farr_size, HF.out]; simp; omega) (by simp [Value.oneCell']) ?_)
      intro w2 hb2 hk2
      rw [farr_put (by have := HF.out; omega)] at hb2
      have O2 := Lib.hid hb2
      have hz2 := hk2.size
      have cn := (hn1.kept hk2 hn1.lt (by simp; omega)).cell (i := 0) rfl
      have cp := (hp1.kept hk2 hp1.lt (by simp; omega)).cell (i := 0) rfl
      have cv := farr_row hb2 (k := k) (by rw [HS.out]; exact hk)
      rw [HX.out] at cv
      have hr2 : RdP w2 p (rdVal' st) := hr1.kept hk2 (fun g h hg hh => by injection hh with hh; have := h1 g hg; omega)
      clear hb2
      go_wp2_with (fail)
      go_end0
      exact ⟨rfl, by rw [Fz.out]; exact hr2, O2.out, w1, w2, hk1, hk2, Kept.refl _ _ _⟩
end Go.Proofs.YtjhndilflcigiaaDoor
namespace Go.Proofs.YtjhndilflcigiaaDoor
open Go.RowKit

theorem Blk.alloc {w : World} {g : Nat} {cs : Array Value} (h : Blk w g cs) (o : Obj) : Blk (w.alloc o) g cs := h.below ((Below.refl _ _).alloc (Nat.le_refl _) o) h.lt
theorem farr_one (f : List Val) : ∀ v ∈ (farr f).toList, v.oneCell' = true := by
  intro v hv
  unfold farr at hv
  simp only [List.mem_flatMap] at hv
  obtain ⟨x, -, hx⟩ := hv
  simp only [Val.cells, List.mem_cons, List.not_mem_nil, or_false] at hx
  rcases hx with rfl | rfl | rfl <;> rfl
theorem farr_zero : farr f8z = #[.int .i64 0, .int .i64 0, .string (str []), .int .i64 0, .int .i64 0, .string (str []), .int .i64 0, .int .i64 0, .string (str []), .int .i64 0, .int .i64 0, .string (str []), .int .i64 0, .int .i64 0, .string (str []), .int .i64 0, .int .i64 0, .string (str []), .int .i64 0, .int .i64 0, .string (str []), .int .i64 0, .int .i64 0, .string (str [])] := by unfold farr; rfl
theorem farr_ones (f : List Val) : ((farr f).all fun x => x.oneCell') = true := by
  rw [Array.all_eq_true]
  exact fun i hi => farr_one f _ (Array.getElem_mem_toList hi)
/-- What stands when k of the mask's fields have been read. -/
structure FldAt (w : World) (p : Option Nat) (b : Bool) (S : Rd) (F : List Val) (m : Nat) (A7 : Option Addr) (c7 : Nat) (k : Nat) (st : Rd) (f : List Val) (wr : World) : Prop where
  len : f.length = 8
  eS : rdFs' b ((bitsTo m 8).drop k) st = S
  eF : rdFv b ((bitsTo m 8).drop k) st f = F
  rd : RdP wr p st
  P : Blk wr w.heap.size #[ptr p]
  N : Blk wr (w.heap.size + 1) #[.bool b]
  R : ∃ z, z.size = 24 ∧ Blk wr (w.heap.size + 2) z
  O : Blk wr (w.heap.size + 3) (farr f)
  own : wr.ownsRow (w.heap.size + 4) 3 1 (.slice A7 (idx8 m).length c7) (idx8 m).length ((idx8 m).flatMap ic)
  kept : Kept p w.heap.size w wr
theorem FldAt.next {w : World} {p : Option Nat} {b : Bool} {S : Rd} {F : List Val} {m : Nat} {A7 : Option Addr} {c7 k : Nat} {st : Rd} {f : List Val} {wr w' : World} {e : Ending} (hp : ∀ g, p = some g → g < w.heap.size) (h : FldAt w p b S F m A7 c7 k st f wr)
    {n : Nat} (hk : k < (bitsTo m 8).length) (hn : n = (bitsTo m 8)[k]) (h1 : RetOne b p st f n (w.heap.size + 3) wr e w') : FldAt w p b S F m A7 c7 (k + 1) (fldS b st) (f.set n (rdVal st)) w' := by
  obtain ⟨-, hr, ho, w1, w2, k1, k2, k3⟩ := h1
  have hS := h.eS
  have hF := h.eF
  rw [List.drop_eq_getElem_cons hk, ← hn] at hS hF
  have ne : ∀ g, w.heap.size ≤ g → p ≠ some g := fun g hg e => by have := hp g e; omega
  obtain ⟨z, hz, hR⟩ := h.R
  have z1 := k1.size
  have z2 := k2.size
  have z3 := k3.size
  have zw := h.kept.size
  have tr : ∀ {g : Nat} {cs : Array Value}, Blk wr g cs → w.heap.size ≤ g → g ≠ w.heap.size + 3 → Blk w' g cs := fun hb hg hne => by
    have b1 := hb.kept k1 hb.lt (ne _ hg)
    have b2 := b1.kept k2 b1.lt (fun e => hne (by injection e with e; exact e.symm))
    exact b2.kept k3 b2.lt (ne _ hg)
  refine ⟨by rw [List.length_set]; exact h.len, hS, hF, hr, tr h.P (Nat.le_refl _) (by omega), tr h.N (by omega) (by omega), ⟨z, hz, tr hR (by omega) (by omega)⟩, ho, ?_, ?_⟩
  · have o1 := own_kept h.own k1 (fun g hg => by have := hp g hg; omega)
    have o2 := own_kept o1 k2 (fun g hg => by injection hg with hg; omega)
    exact own_kept o2 k3 (fun g hg => by have := hp g hg; omega)
  · exact ((h.kept.trans (k1.mono zw)).trans (k2.one (by omega) (.inl (by omega)))).trans (k3.mono (by omega))
set_option maxHeartbeats 4000000 in
set_option maxRecDepth 4000 in
theorem c_cardwire_fields (p : Option Nat) (st : Rd) (m : Nat) (b : Bool) (w : World) (hm : m < 4294967296) (hT : Tab w) (hr : RdP w p st) :
    Calls Tryd.prog 121 #[ptr p, .int .u32 m, .bool b] w (RetP p (rdFs' b (bitsTo m 8) st) w (.agg (farr (rdFv b (bitsTo m 8) st f8z)))) := by
  have hpl := fun g (hg : p = some g) => hr.lt hg
  obtain ⟨S, hS⟩ : ∃ S, S = rdFs' b (bitsTo m 8) st := ⟨_, rfl⟩
  obtain ⟨F, hF⟩ : ∃ F, F = rdFv b (bitsTo m 8) st f8z := ⟨_, rfl⟩
  rw [← hS, ← hF]
  have hS0 := Lib.hid hS
  have hF0 := Lib.hid hF
  have IB := Lib.hid (idx8_bits m)
  have hl8 := idx8_len m
  clear hS hF
  go_enter Tryd.func121, Tryd.ntmps121
  go_wp2_with (go_at_call 96; refine (c_mask_Fields m hm _ (hT.below (by repeat (first | exact Below.refl _ _ | refine Below.drew ?_ | refine Below.alloc ?_ (by first | omega | (simp; done) | (simp; omega)) _ | refine Below.setCell ?_ (by first | omega | (simp; done) | (simp; omega)) _ | refine Below.trans ?_ (Below.mono (by assumption) (by first | omega | (simp; done) | (simp; omega))))))).mono ?_; rintro e w7 ⟨v7, rfl, own7, hb7⟩; have hbw : Below w.heap.size w w7 := (by repeat (first | exact Below.refl _ _ | refine Below.drew ?_ | refine Below.alloc ?_ (by first | omega | (simp; done) | (simp; omega)) _ | refine Below.setCell ?_ (by first | omega | (simp; done) | (simp; omega)) _ | refine Below.trans ?_ (Below.mono (by assumption) (by first | omega | (simp; done) | (simp; omega))))); have P7 := Lib.hid (((((Blk.new w _ _).alloc _).alloc _).alloc _).below hb7 (by simp; omega)); have N7 := Lib.hid ((((Blk.new _ _ _).alloc _).alloc _).below hb7 (by simp)); have R7 := Lib.hid (((Blk.new _ _ _).alloc _).below hb7 (by simp)); have O7 := Lib.hid ((Blk.new _ _ _).below hb7 (by simp)); have OW := Lib.hid own7; clear own7; obtain ⟨A7, c7, rfl, -⟩ := own_form OW.out)
  simp only [World.size_alloc] at OW
  go_loopw [10, 15] (fun _ i wr => ∃ (k : Nat) (st' : Rd) (f' : List Val), k ≤ (idx8 m).length ∧ i = .int .i64 k ∧ FldAt w p b S F m A7 c7 k st' f' wr)
    (fun _ i _ => (idx8 m).length - (intOf i).toNat)
  case atStart => exact ⟨0, st, f8z, by omega, rfl, rfl, by rw [List.drop_zero]; exact hS0.out.symm, by rw [List.drop_zero]; exact hF0.out.symm, hr.up hbw hpl, P7.out, by simpa using N7.out, ⟨_, rfl, by simpa using R7.out⟩, by rw [farr_zero]; simpa using O7.out, OW.out, .of_below hbw⟩
  case round =>
    clear P7 N7 R7 O7 OW hbw hb7
    obtain ⟨k, st', f', hk, rfl, I⟩ := hrel
    have IH := Lib.hid I
    have hwz := I.kept.size
    clear I
    by_cases hlt : k < (idx8 m).length
    · obtain ⟨A', c', he, in'⟩ := In.of_own ic_len IH.out.own (by omega)
      simp only [Value.slice.injEq, true_and] at he
      obtain ⟨rfl, rfl⟩ := he
      obtain ⟨bl, off, rfl, hbb, hrow⟩ := in'.at hlt
      have hc0 := hrow k hlt 0 _ rfl
      have hlt' : k < (bitsTo m 8).length := by rw [IB.out] at hlt; simpa using hlt
      obtain ⟨n, hn⟩ : ∃ n, n = (bitsTo m 8)[k] := ⟨_, rfl⟩
      have hn8 : n < 8 := by rw [hn]; exact bitsTo_bd (List.getElem_mem hlt')
      have hin : (idx8 m)[k] = (n : Int) := by simp [IB.out, hn]
      rw [hin] at hc0
      simp only [Nat.mul_one, Nat.add_zero] at hc0
      have HN := Lib.hid hn
      clear hn hin hrow in'
      go_wp2_with (fail)
      refine (c_fields_one b p st' f' n w.heap.size (w.heap.size + 1) (w.heap.size + 3) _ IH.out.len hn8 IH.out.rd IH.out.P IH.out.N IH.out.O hpl (by omega) (by omega)).mono ?_
      intro e w8 hone
      have I8 := Lib.hid (IH.out.next hpl hlt' HN.out hone)
      obtain ⟨rfl, -⟩ := hone
      go_wp2_with (fail)
      go_roundw
      case rel => exact ⟨k + 1, _, _, by omega, by go_num, I8.out⟩
      case measure => simp [intOf]; omega
    · have hge : (bitsTo m 8).length ≤ k := by rw [IB.out] at hlt; simpa using hlt
      obtain ⟨z, hz, hR⟩ := IH.out.R
      have Rz := Lib.hid hR
      have Zz := Lib.hid hz
      clear hR hz
      go_wp2_with (with_reducible refine stop_load 25 (.tmp 7) rfl rfl ?_)
      refine Stop.mk (wpList_loadB rfl _ _ rfl (w.heap.size + 3) rfl (farr f') IH.out.O strF (by rw [farr_size, IH.out.len]) ?_)
      go_wp2_with (with_reducible refine stop_store 25 (.tmp 6) (.tmp 23) rfl rfl ?_)
      refine Stop.mk (wpList_storeB rfl _ _ _ rfl (w.heap.size + 2) _ rfl rfl _ Rz.out strF (by rw [farr_size, IH.out.len]) (by rw [farr_size, IH.out.len, Zz.out]) (farr_ones f') ?_)
      intro w9 hb9 hk9
      have B9 := Lib.hid hb9
      clear hb9
      go_wp2_with (fail)
      have hS := IH.out.eS
      have hF := IH.out.eF
      rw [List.drop_of_length_le hge] at hS hF
      refine bodyPost_ret (results_B rfl rfl B9.out strF (by rw [farr_size, IH.out.len])) rfl ⟨?_, ?_, ?_⟩
      · rw [← hF]; rfl
      · rw [← hS]; exact IH.out.rd.own (b := w.heap.size + 2) hk9 (fun g hg => by have := hpl g hg; omega)
      · exact IH.out.kept.trans (hk9.one hwz (.inl (by omega)))
end Go.Proofs.YtjhndilflcigiaaDoor
