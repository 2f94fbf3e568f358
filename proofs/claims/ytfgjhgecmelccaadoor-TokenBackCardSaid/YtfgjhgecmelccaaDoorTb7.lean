/-
  Lemmas (walks and plain laws), in one text.
-/
import Derived.Test.YtfgjhgecmelccaaDoorTb6
import Derived.Test.YtfgjhgecmelccaaDoorRows
import Derived.WalkKit
import Derived.WalkSpells
import Derived.WalkLawsBesides
import Derived.Lib.Hide
import Derived.Deep.QuietTactic
import Derived.BigQuiet
import Derived.Maps.AppendAt
import Derived.WalkSmall
import Derived.ProofKit
import Derived.OpenShut
import Derived.JoinedCond
import Derived.Deep.Slices
import Derived.Deep.Fields
import Derived.Carry
import Derived.HandedShaped
import Derived.Shelf.Strings.Builder1
import Derived.Shelf.Strings.Builder2
import Derived.Shelf.Strings.OnBuilder
import Derived.Shelf.Small.Wraps
import Derived.Shelf.Utf8.RuneCount
import Derived.Shelf.Strconv.Itoa0
import Derived.Shelf.Strconv.Itoa1
import Derived.Shelf.LaysM
import Derived.Shelf.Strconv.Itoa2
import Derived.Shelf.Strconv.Itoa3
import Derived.Shelf.Strings.Search1
import Derived.Shelf.Strings.Search2
import Derived.Shelf.Strings.Search3
import Derived.Shelf.Strings.Count
import Derived.Shelf.Strings.Shaped
import Derived.Shelf.Strings.Split
import Derived.Shelf.Strings.SplitShaped
import Derived.Shelf.Unicode.Decode
import Derived.Shelf.Strings.RuneCount
import Derived.Shelf.Strings.Explode
import Derived.Shelf.Unicode.DecodeSlow
import Derived.Test.YtfgjhgecmelccaaDoorProg
import Derived.Deep.AppendSrc
import Derived.Lib.AppendStr
import Derived.Laws.BytesArg
import Derived.Lib.AppendIntMem
import Derived.Lib.ItoaLen
import Derived.Lib.TrailingZeros
import Derived.Lib.SplitLaws
import Derived.Lib.ItoaNum
import Derived.Shelf.Strings.PiecesUse
import Derived.Shelf.Spec.TrailingZeros
import Derived.RangeFuncNested
import Derived.RangeFuncBound
import Derived.RangeFuncCalls
import Derived.RangeFuncLeaves
import Derived.Shelf.Abstract
import Derived.Shelf.RegionOpen
import Derived.OwnWalkIn
import Derived.TacticsInMore
import Derived.LoopNIn
import Derived.LoopIn
import Derived.Test.YtfgjhgecmelccaaDoorTie
import Derived.Lib.LaidTab
import Derived.LaidMore
import Derived.Lay
import Derived.Stop.LaidErr
import Derived.SevenTiedAt
import Derived.Test.YtfgjhgecmelccaaDoorCards
import Derived.Deep.CutBlock
import Derived.Deep.DeepCutAuto
import Derived.Laws.Tables
import Derived.Laws.Rows
import Derived.Laws.CopyOwn
import Derived.Outline
import Derived.IntWalk
import Derived.Lib.EndianBits
import Derived.StillTail
import Derived.Laws.IdiomStrings
import Derived.ChangeKeysEq
import Derived.Laws.StructEq
namespace Go.Proofs.YtfgjhgecmelccaaDoor
open Go.RowKit

theorem EnvP.b2 {p : Option Nat} {S : Rd} {w w1 : World} {l : List (Nat × Array Value)} {g g0 g1 : Nat} {cs c0 c1 : Array Value} (h : EnvP p S w w1 ((g0, c0) :: (g1, c1) :: (g, cs) :: l)) : Blk w1 g cs := h.blks.2.2.1.1
theorem EnvP.bel {S : Rd} {w w1 : World} {l : List (Nat × Array Value)} (h : EnvP none S w w1 l) : Below w.heap.size w w1 := h.kept.below (Nat.le_refl _) (fun _ e => by cases e)
def inR (x m : Int) : Prop := 0 ≤ x ∧ x ≤ m
instance (x m : Int) : Decidable (inR x m) := by unfold inR; infer_instance
theorem tok_bad0 {t : Tok} (h : ¬ inR t.dev 5) : t.ok = false := by unfold inR at h; unfold Tok.ok; simp; omega
theorem tok_bad1 {t : Tok} (h : ¬ inR t.epoch 1099511627776) : t.ok = false := by unfold inR at h; unfold Tok.ok; simp; omega
theorem tok_bad2 {t : Tok} (h : ¬ inR t.seq 1099511627776) : t.ok = false := by unfold inR at h; unfold Tok.ok; simp; omega
theorem tok_bad3 {t : Tok} (h : ¬ inR t.cursor 1073741824) : t.ok = false := by unfold inR at h; unfold Tok.ok; simp; omega
set_option maxHeartbeats 8000000 in
set_option maxRecDepth 4000 in
theorem c_token_Check (t : Tok) (w : World) : Calls Tryd.prog 33 #[.agg t.arr] w (RetV w (.bool t.ok)) := by
  have E := Lib.hid ((EnvP.start (RdP.nilmk w)).alloc 72 t.arr)
  go_enter Tryd.func33, Tryd.ntmps33
  go_wp2_with (with_reducible refine stop_load 72 (.tmp 1) rfl rfl ?_)
  refine Stop.mk (wpList_loadB rfl _ _ rfl w.heap.size rfl _ E.out.b0 strTk rfl ?_)
  go_wp2_with (fail)
  refine (c_token_parts t _).mono ?_
  rintro e w1 ⟨rfl, hb1⟩
  replace E := Lib.hid (E.out.below hb1)
  clear hb1
  go_wp2_with (fail)
  refine (c_token_most _).mono ?_
  rintro e w2 ⟨rfl, hb2⟩
  replace E := Lib.hid (E.out.below hb2)
  clear hb2
  go_wp2_with (with_reducible refine stop_store 138 (.tmp 3) (.tmp 7) rfl rfl ?_)
  replace E := Lib.hid ((E.out.alloc 138 #[.int .i64 0, .int .i64 0, .int .i64 0, .int .i64 0]).alloc 138 #[.int .i64 0, .int .i64 0, .int .i64 0, .int .i64 0])
  have hs2 : (w2.alloc (.cells #[.int .i64 0, .int .i64 0, .int .i64 0, .int .i64 0] 138)).heap.size = w2.heap.size + 1 := by simp
  rw [hs2] at E
  refine Stop.mk (wpList_storeB rfl _ _ _ rfl w2.heap.size _ rfl rfl _ E.out.b1 str4i rfl rfl (by simp [Value.oneCell']) ?_)
  intro w3 hb3 hk3
  replace E := Lib.hid (E.out.put1 hb3 hk3)
  clear hb3 hk3 hs2
  go_wp2_with (with_reducible refine stop_store 138 (.tmp 4) (.tmp 8) rfl rfl ?_)
  refine Stop.mk (wpList_storeB rfl _ _ _ rfl (w2.heap.size + 1) _ rfl rfl _ E.out.b0 str4i rfl rfl (by simp [Value.oneCell']) ?_)
  intro w4 hb4 hk4
  replace E := Lib.hid (E.out.put0 hb4 hk4)
  clear hb4 hk4
  obtain ⟨g, hg⟩ : ∃ g, g = w2.heap.size := ⟨_, rfl⟩
  obtain ⟨g', hg'⟩ : ∃ g, g = w2.heap.size + 1 := ⟨_, rfl⟩
  go_wp2_with (fail)
  rw [← hg', ← hg] at E ⊢
  clear hg hg'
  go_loopw [5, 9] (fun _ i wr => ∃ k : Nat, k ≤ 4 ∧ i = .int .i64 k ∧ (0 < k → inR t.dev 5) ∧ (1 < k → inR t.epoch 1099511627776) ∧ (2 < k → inR t.seq 1099511627776) ∧ (3 < k → inR t.cursor 1073741824) ∧ Hid (EnvP none ⟨[], 1⟩ w wr [(g', most4), (g, t.arr), (w.heap.size, t.arr)]))
    (fun _ i _ => 4 - (intOf i).toNat)
  case atStart => exact ⟨0, by omega, rfl, fun h => absurd h (by omega), fun h => absurd h (by omega), fun h => absurd h (by omega), fun h => absurd h (by omega), E.out⟩
  case round =>
    obtain ⟨k, hk, rfl, K0, K1, K2, K3, E1⟩ := hrel
    clear E
    have hcs : k = 0 ∨ k = 1 ∨ k = 2 ∨ k = 3 ∨ k = 4 := by omega
    clear hk
    obtain ⟨q0, q1, q2, q3⟩ := tok_cells E1.out.b1
    have m0 := E1.out.b0.cell (show most4[0]? = _ from rfl)
    have m1 := E1.out.b0.cell (show most4[1]? = _ from rfl)
    have m2 := E1.out.b0.cell (show most4[2]? = _ from rfl)
    have m3 := E1.out.b0.cell (show most4[3]? = _ from rfl)
    have hlt3 := E1.out.b1.lt
    have hlt4 := E1.out.b0.lt
    rcases hcs with rfl | rfl | rfl | rfl | rfl
    · by_cases hk : inR t.dev 5
      · have d1 : decide (t.dev < 0) = false := by unfold inR at hk; simp; omega
        have d2 : decide (5 < t.dev) = false := by unfold inR at hk; simp; omega
        have HK := Lib.hid hk
        clear hk
        go_wp2_with (fail)
        refine wp_region_grow (by kernel_rfl) (by kernel_rfl) ?_
        repeat (quiet_step ((first | (fail))))
        refine wpQuiet_nil ?_
        intro W2 hb2
        have E2 := Lib.hid (E1.out.below hb2)
        clear hb2 E1 q0 q1 q2 q3 m0 m1 m2 m3 hlt3 hlt4
        go_wp2_with (fail)
        go_roundw
        case rel => refine ⟨0 + 1, by omega, rfl, fun _ => ?_, fun _ => ?_, fun _ => ?_, fun _ => ?_, E2.out⟩ <;> first | exact HK.out | exact (K0 (by omega)) | exact (K1 (by omega)) | exact (K2 (by omega)) | (exfalso; omega)
        case measure => simp [intOf]
      · have H := Lib.hid (tok_bad0 hk)
        have hcs : t.dev < 0 ∨ (0 ≤ t.dev ∧ 5 < t.dev) := by unfold inR at hk; omega
        clear hk
        rcases hcs with h1 | ⟨h1, h2⟩
        · have d1 : decide (t.dev < 0) = true := by simpa using h1
          clear h1
          go_wp2_with (fail)
          refine wp_region_grow (by kernel_rfl) (by kernel_rfl) ?_
          repeat (quiet_step ((first | (fail))))
          refine wpQuiet_nil ?_
          intro W2 hb2
          have hbw := E1.out.bel.trans (hb2.mono E1.out.size)
          go_wp2_with (fail)
          go_ret
          exact RetV.bool H.out.symm hbw
        · have d1 : decide (t.dev < 0) = false := by simpa using h1
          have d2 : decide (5 < t.dev) = true := by simpa using h2
          clear h1 h2
          go_wp2_with (fail)
          refine wp_region_grow (by kernel_rfl) (by kernel_rfl) ?_
          repeat (quiet_step ((first | (fail))))
          refine wpQuiet_nil ?_
          intro W2 hb2
          have hbw := E1.out.bel.trans (hb2.mono E1.out.size)
          go_wp2_with (fail)
          go_ret
          exact RetV.bool H.out.symm hbw
    · by_cases hk : inR t.epoch 1099511627776
      · have d1 : decide (t.epoch < 0) = false := by unfold inR at hk; simp; omega
        have d2 : decide (1099511627776 < t.epoch) = false := by unfold inR at hk; simp; omega
        have HK := Lib.hid hk
        clear hk
        go_wp2_with (fail)
        refine wp_region_grow (by kernel_rfl) (by kernel_rfl) ?_
        repeat (quiet_step ((first | (fail))))
        refine wpQuiet_nil ?_
        intro W2 hb2
        have E2 := Lib.hid (E1.out.below hb2)
        clear hb2 E1 q0 q1 q2 q3 m0 m1 m2 m3 hlt3 hlt4
        go_wp2_with (fail)
        go_roundw
        case rel => refine ⟨1 + 1, by omega, rfl, fun _ => ?_, fun _ => ?_, fun _ => ?_, fun _ => ?_, E2.out⟩ <;> first | exact HK.out | exact (K0 (by omega)) | exact (K1 (by omega)) | exact (K2 (by omega)) | (exfalso; omega)
        case measure => simp [intOf]
      · have H := Lib.hid (tok_bad1 hk)
        have hcs : t.epoch < 0 ∨ (0 ≤ t.epoch ∧ 1099511627776 < t.epoch) := by unfold inR at hk; omega
        clear hk
        rcases hcs with h1 | ⟨h1, h2⟩
        · have d1 : decide (t.epoch < 0) = true := by simpa using h1
          clear h1
          go_wp2_with (fail)
          refine wp_region_grow (by kernel_rfl) (by kernel_rfl) ?_
          repeat (quiet_step ((first | (fail))))
          refine wpQuiet_nil ?_
          intro W2 hb2
          have hbw := E1.out.bel.trans (hb2.mono E1.out.size)
          go_wp2_with (fail)
          go_ret
          exact RetV.bool H.out.symm hbw
        · have d1 : decide (t.epoch < 0) = false := by simpa using h1
          have d2 : decide (1099511627776 < t.epoch) = true := by simpa using h2
          clear h1 h2
          go_wp2_with (fail)
          refine wp_region_grow (by kernel_rfl) (by kernel_rfl) ?_
          repeat (quiet_step ((first | (fail))))
          refine wpQuiet_nil ?_
          intro W2 hb2
          have hbw := E1.out.bel.trans (hb2.mono E1.out.size)
          go_wp2_with (fail)
          go_ret
          exact RetV.bool H.out.symm hbw
    · by_cases hk : inR t.seq 1099511627776
      · have d1 : decide (t.seq < 0) = false := by unfold inR at hk; simp; omega
        have d2 : decide (1099511627776 < t.seq) = false := by unfold inR at hk; simp; omega
        have HK := Lib.hid hk
        clear hk
        go_wp2_with (fail)
        refine wp_region_grow (by kernel_rfl) (by kernel_rfl) ?_
        repeat (quiet_step ((first | (fail))))
        refine wpQuiet_nil ?_
        intro W2 hb2
        have E2 := Lib.hid (E1.out.below hb2)
        clear hb2 E1 q0 q1 q2 q3 m0 m1 m2 m3 hlt3 hlt4
        go_wp2_with (fail)
        go_roundw
        case rel => refine ⟨2 + 1, by omega, rfl, fun _ => ?_, fun _ => ?_, fun _ => ?_, fun _ => ?_, E2.out⟩ <;> first | exact HK.out | exact (K0 (by omega)) | exact (K1 (by omega)) | exact (K2 (by omega)) | (exfalso; omega)
        case measure => simp [intOf]
      · have H := Lib.hid (tok_bad2 hk)
        have hcs : t.seq < 0 ∨ (0 ≤ t.seq ∧ 1099511627776 < t.seq) := by unfold inR at hk; omega
        clear hk
        rcases hcs with h1 | ⟨h1, h2⟩
        · have d1 : decide (t.seq < 0) = true := by simpa using h1
          clear h1
          go_wp2_with (fail)
          refine wp_region_grow (by kernel_rfl) (by kernel_rfl) ?_
          repeat (quiet_step ((first | (fail))))
          refine wpQuiet_nil ?_
          intro W2 hb2
          have hbw := E1.out.bel.trans (hb2.mono E1.out.size)
          go_wp2_with (fail)
          go_ret
          exact RetV.bool H.out.symm hbw
        · have d1 : decide (t.seq < 0) = false := by simpa using h1
          have d2 : decide (1099511627776 < t.seq) = true := by simpa using h2
          clear h1 h2
          go_wp2_with (fail)
          refine wp_region_grow (by kernel_rfl) (by kernel_rfl) ?_
          repeat (quiet_step ((first | (fail))))
          refine wpQuiet_nil ?_
          intro W2 hb2
          have hbw := E1.out.bel.trans (hb2.mono E1.out.size)
          go_wp2_with (fail)
          go_ret
          exact RetV.bool H.out.symm hbw
    · by_cases hk : inR t.cursor 1073741824
      · have d1 : decide (t.cursor < 0) = false := by unfold inR at hk; simp; omega
        have d2 : decide (1073741824 < t.cursor) = false := by unfold inR at hk; simp; omega
        have HK := Lib.hid hk
        clear hk
        go_wp2_with (fail)
        refine wp_region_grow (by kernel_rfl) (by kernel_rfl) ?_
        repeat (quiet_step ((first | (fail))))
        refine wpQuiet_nil ?_
        intro W2 hb2
        have E2 := Lib.hid (E1.out.below hb2)
        clear hb2 E1 q0 q1 q2 q3 m0 m1 m2 m3 hlt3 hlt4
        go_wp2_with (fail)
        go_roundw
        case rel => refine ⟨3 + 1, by omega, rfl, fun _ => ?_, fun _ => ?_, fun _ => ?_, fun _ => ?_, E2.out⟩ <;> first | exact HK.out | exact (K0 (by omega)) | exact (K1 (by omega)) | exact (K2 (by omega)) | (exfalso; omega)
        case measure => simp [intOf]
      · have H := Lib.hid (tok_bad3 hk)
        have hcs : t.cursor < 0 ∨ (0 ≤ t.cursor ∧ 1073741824 < t.cursor) := by unfold inR at hk; omega
        clear hk
        rcases hcs with h1 | ⟨h1, h2⟩
        · have d1 : decide (t.cursor < 0) = true := by simpa using h1
          clear h1
          go_wp2_with (fail)
          refine wp_region_grow (by kernel_rfl) (by kernel_rfl) ?_
          repeat (quiet_step ((first | (fail))))
          refine wpQuiet_nil ?_
          intro W2 hb2
          have hbw := E1.out.bel.trans (hb2.mono E1.out.size)
          go_wp2_with (fail)
          go_ret
          exact RetV.bool H.out.symm hbw
        · have d1 : decide (t.cursor < 0) = false := by simpa using h1
          have d2 : decide (1073741824 < t.cursor) = true := by simpa using h2
          clear h1 h2
          go_wp2_with (fail)
          refine wp_region_grow (by kernel_rfl) (by kernel_rfl) ?_
          repeat (quiet_step ((first | (fail))))
          refine wpQuiet_nil ?_
          intro W2 hb2
          have hbw := E1.out.bel.trans (hb2.mono E1.out.size)
          go_wp2_with (fail)
          go_ret
          exact RetV.bool H.out.symm hbw
    · have r0 := K0 (by omega)
      have r1 := K1 (by omega)
      have r2 := K2 (by omega)
      have r3 := K3 (by omega)
      have H := Lib.hid (show t.ok = decide (0 < t.epoch) by
        unfold inR at r0 r1 r2 r3
        unfold Tok.ok
        rw [Bool.eq_iff_iff]
        simp only [decide_eq_true_eq]
        omega)
      obtain ⟨u0, u1, u2, u3⟩ := tok_cells E1.out.b2
      clear r0 r1 r2 r3 K0 K1 K2 K3
      go_wp2_with (fail)
      go_ret
      exact RetV.bool H.out.symm E1.out.bel
end Go.Proofs.YtfgjhgecmelccaaDoor
namespace Go.Proofs.YtfgjhgecmelccaaDoor
open Go.RowKit

/-- What is told of an operation's value. -/
structure Sp where
  holds : Value → World → Prop
  stays : ∀ v w w', holds v w → Below w.heap.size w w' → holds v w'
def Sp.any : Sp := ⟨fun _ _ => True, fun _ _ _ _ _ => trivial⟩
def Sp.slice {α : Type} (k : Nat) (cs : α → List Value) (l : List α) : Sp := ⟨fun v w => ∃ A c, v = .slice A l.length c ∧ In k cs w A c l, fun _ _ _ ⟨A, c, hv, h⟩ hb => ⟨A, c, hv, h.below hb⟩⟩
def dstOf (ops : Array Oper) (j : Nat) : Option Tmp := (ops[j]?).bind (·.dst)
/-- The frame with the values of what is waited for. -/
def putDeps (ops : Array Oper) (u : Nat → Value) : List Edge → Act → Act
  | [], a => a
  | e :: r, a => putDeps ops u r (if Region.binds .any e = true then a.put (dstOf ops e.on) (u e.on) else a)
def Deps (S : List Sp) (u : Nat → Value) (w : World) : List Edge → Prop
  | [] => True
  | e :: r => (Region.binds .any e = true → (S.getD e.on Sp.any).holds (u e.on) w) ∧ Deps S u w r
def RelEnd (ds : List Deferred) (d : Option Tmp) (s : Sp) (w1 : World) (e : Exit) (a' : Act) (w' : World) : Prop :=
  e = .normal ∧ a'.defers = ds ∧ Below w1.heap.size w1 w' ∧ ∀ t, d = some t → s.holds (a'.tmps.getD t undef) w'
theorem RelEnd.mk {ds : List Deferred} {d : Tmp} {s : Sp} {w1 : World} {a' : Act} {w' : World} (h1 : a'.defers = ds) (h2 : Below w1.heap.size w1 w') (h3 : s.holds (a'.tmps.getD d undef) w') : RelEnd ds (some d) s w1 .normal a' w' :=
  ⟨rfl, h1, h2, fun t e => by injection e with e; subst e; exact h3⟩
def RelGoals (P : Program) (ops : Array Oper) (S : List Sp) (a : Act) (w : World) : List Oper → Nat → Prop
  | [], _ => True
  | o :: r, i => (∀ (u : Nat → Value) (w1 : World), Below w.heap.size w w1 → Deps S u w1 o.after.toList → wpList P ops (RelEnd a.defers o.dst (S.getD i Sp.any) w1) [o] (putDeps ops u o.after.toList a) w1) ∧ RelGoals P ops S a w r (i + 1)
def RelHold (u : Nat → Value) (w : World) : List Sp → Nat → Prop
  | [], _ => True
  | s :: r, i => s.holds (u i) w ∧ RelHold u w r (i + 1)
section
variable {ops : Array Oper} {N : Nat}
end
section
variable {P : Program} {S : List Sp} {a : Act} {w : World} {l : List Oper}
theorem RelGoals.at {ops : Array Oper} : ∀ (l : List Oper) (i : Nat), RelGoals P ops S a w l i → ∀ (j : Nat) (o : Oper), l[j]? = some o → ∀ (u : Nat → Value) (w1 : World), Below w.heap.size w w1 → Deps S u w1 o.after.toList →
    wpList P ops (RelEnd a.defers o.dst (S.getD (i + j) Sp.any) w1) [o] (putDeps ops u o.after.toList a) w1
  | [], _, _, _, _, h => by simp at h
  | x :: r, i, hg, 0, o, h => by
    simp only [List.getElem?_cons_zero, Option.some.injEq] at h
    subst h
    exact hg.1
  | x :: r, i, hg, j + 1, o, h => by
    have := RelGoals.at r (i + 1) hg.2 j o (by simpa using h)
    rw [show i + 1 + j = i + (j + 1) by omega] at this
    exact this
theorem Deps.of {u : Nat → Value} {w1 : World} : ∀ es : List Edge, (∀ e ∈ es, Region.binds .any e = true → (S.getD e.on Sp.any).holds (u e.on) w1) → Deps S u w1 es
  | [], _ => trivial
  | e :: r, h => ⟨h e (List.mem_cons_self ..), Deps.of r (fun x hx => h x (List.mem_cons_of_mem _ hx))⟩
theorem RelHold.of {u : Nat → Value} {w1 : World} : ∀ (S : List Sp) (i : Nat), (∀ (j : Nat) (s : Sp), S[j]? = some s → s.holds (u (i + j)) w1) → RelHold u w1 S i
  | [], _, _ => trivial
  | s :: r, i, h => ⟨by simpa using h 0 s (by simp), RelHold.of r (i + 1) (fun j x hx => by have := h (j + 1) x (by simpa using hx); rwa [show i + (j + 1) = i + 1 + j by omega] at this)⟩
/-- The goals from operation s on. -/
def Hop (P : Program) (l : List Oper) (S : List Sp) (a : Act) (w : World) (s : Nat) : Prop :=
  ∀ (i : Nat) (o : Oper), l[i]? = some o → s ≤ i → ∀ (u : Nat → Value) (w1 : World), Below w.heap.size w w1 → Deps S u w1 o.after.toList →
    wpList P l.toArray (RelEnd a.defers o.dst (S.getD i Sp.any) w1) [o] (putDeps l.toArray u o.after.toList a) w1
theorem Hop.of {s : Nat} (h : RelGoals P l.toArray S a w (l.drop s) s) : Hop P l S a w s := fun i o ho hi u w1 hb hd => by
  have := RelGoals.at (l.drop s) s h (i - s) o (by rw [List.getElem?_drop, show s + (i - s) = i by omega]; exact ho) u w1 hb hd
  rw [show s + (i - s) = i by omega] at this
  exact this
end
end Go.Proofs.YtfgjhgecmelccaaDoor
namespace Go.Proofs.YtfgjhgecmelccaaDoor
open Go.RowKit

/-- A slice of a call's own, as a property. -/
def Sp.own {α : Type} (B : Nat) (e : TypeId) (k : Nat) (cs : α → List Value) (l : List α) : Sp := ⟨fun v w => w.ownsRow B e k v l.length (l.flatMap cs), fun _ _ _ h hb => own_below h hb⟩
end Go.Proofs.YtfgjhgecmelccaaDoor
