/-
  Lemmas (walks and plain laws), in one text.
-/
import Derived.Test.YtfgjhgecmelccaaLw12
import Derived.WalkKit
import Derived.WalkSpells
import Derived.WalkLawsBesides
import Derived.Lib.Hide
import Derived.Deep.QuietTactic
import Derived.BigQuiet
import Derived.Maps.AppendAt
import Derived.WalkSmall
import Derived.StillTail
import Derived.RangeFuncNested
import Derived.RangeFuncCalls
import Derived.OrdersIn
import Derived.ControlIn
import Derived.Test.YtfgjhgecmelccaaProg
import Derived.Deep.CutBlock
import Derived.Deep.DeepCutAuto
import Derived.Deep.AppendSrc
import Derived.Lib.AppendStr
import Derived.Laws.BytesArg
import Derived.WalkMore
import Derived.ScopeJumps
import Derived.Lib.Bytealg
import Derived.Laws.Externs
import Derived.Laws.IdiomStrings
import Derived.Outline
import Derived.IntWalk
import Derived.Laws.Tables
import Derived.Laws.Rows
import Derived.ChangeKeysEq
import Derived.Laws.StructEq
import Derived.RangeFuncBound
import Derived.RangeFuncLeaves
import Derived.OwnWalkIn
import Derived.LoopIn
import Derived.Shelf.Abstract
import Derived.Test.YtfgjhgecmelccaaRows
import Derived.ProofKit
import Derived.OpenShut
import Derived.JoinedCond
import Derived.Deep.Slices
import Derived.Deep.Fields
import Derived.Carry
namespace Go.Proofs.Ytfgjhgecmelccaa
open Go.RowKit

theorem In.wd {w : World} {A : Option Addr} {c : Nat} {l : List Wd} (h : In 4 Wd.cells w A c l) {k : Nat} (hk : k < l.length) : ∃ b off, A = some ⟨b, off, none⟩ ∧ b < w.heap.size ∧ ∀ w', Below w.heap.size w w' → w'.cell? ⟨b, off + k * 4, none⟩ = some (.int .i64 l[k].kind) ∧ w'.cell? ⟨b, off + k * 4 + 1, none⟩ = some (.int .i64 l[k].n) ∧ w'.cell? ⟨b, off + k * 4 + 2, none⟩ = some (.int .i64 l[k].pos) ∧ w'.cell? ⟨b, off + k * 4 + 3, none⟩ = some (.string (str l[k].s)) := by
  obtain ⟨b, off, hA, hb, hrow⟩ := h.at hk
  refine ⟨b, off, hA, hb, fun w' hw => ?_⟩
  have hr := hrow.below hw hb
  exact ⟨hr k hk 0 _ rfl, hr k hk 1 _ rfl, hr k hk 2 _ rfl, hr k hk 3 _ rfl⟩
set_option maxHeartbeats 4000000 in
set_option maxRecDepth 4000 in
theorem c_law09_Same (l : List Wd) (A B : Option Addr) (c d : Nat) (w : World) (hl : In 4 Wd.cells w A c l) (hm : In 4 Wd.cells w B d l) :
    Calls Try.prog 9 #[.slice A l.length c, .slice B l.length d] w (RetV w (.bool true)) := by
  obtain ⟨n, hn⟩ : ∃ n, n = l.length := ⟨_, rfl⟩
  have hL : n ≤ c := by rw [hn]; exact hl.1
  have hC := hl.2.1
  have hS : n ≤ 4294967296 := by rw [hn]; exact hl.2.2.1
  have hL' : n ≤ d := by rw [hn]; exact hm.1
  have hC' := hm.2.1
  have HNL := Lib.hid hn
  rw [← hn]
  have HL := Lib.hid hl
  have HM := Lib.hid hm
  clear hl hm hn
  go_enter Try.func9, Try.ntmps9
  go_wp2_with (fail)
  go_loopw [5] (fun i wr => ∃ k : Nat, k ≤ n ∧ i = .int .i64 k ∧ Hid (Below w.heap.size w wr))
    (fun i _ => n - (intOf i).toNat)
  case atStart => exact ⟨0, by omega, rfl, Below.refl _ _⟩
  case round =>
    obtain ⟨k, hk, rfl, B1⟩ := hrel
    by_cases hlt : k < n
    · have hd : decide (k < n) = true := by simpa using hlt
      have HLT := Lib.hid hlt
      have hkl : k < l.length := by rw [← HNL.out]; exact hlt
      obtain ⟨b, off, rfl, hb, RX⟩ := (HL.out.below B1.out).wd hkl
      obtain ⟨b', off', rfl, hb', RY⟩ := (HM.out.below B1.out).wd hkl
      obtain ⟨x0, hx0⟩ : ∃ x, x = l[k].kind := ⟨_, rfl⟩
      obtain ⟨x1, hx1⟩ : ∃ x, x = l[k].n := ⟨_, rfl⟩
      obtain ⟨x2, hx2⟩ : ∃ x, x = l[k].pos := ⟨_, rfl⟩
      obtain ⟨x3, hx3⟩ : ∃ x, x = l[k].s := ⟨_, rfl⟩
      rw [← hx0, ← hx1, ← hx2, ← hx3] at RX RY
      have HX := Lib.hid RX
      have HY := Lib.hid RY
      clear RX RY hlt hx0 hx1 hx2 hx3 hkl
      go_wp2_with (fail)
      refine wp_region_rel [Sp.eq (.slice (some ⟨b, off, none⟩) n c), Sp.eq (.int .i64 k), Sp.eq (.pointer (some ⟨b, off + k * 4, none⟩)), Sp.eq (.pointer (some ⟨b, off + k * 4, none⟩)), Sp.eq (.int .i64 x0), Sp.eq (.slice (some ⟨b', off', none⟩) n d), Sp.eq (.int .i64 k), Sp.eq (.pointer (some ⟨b', off' + k * 4, none⟩)), Sp.eq (.pointer (some ⟨b', off' + k * 4, none⟩)), Sp.eq (.int .i64 x0), Sp.eq (.bool false), Sp.eq (.bool false), Sp.eq (.slice (some ⟨b, off, none⟩) n c), Sp.eq (.int .i64 k), Sp.eq (.pointer (some ⟨b, off + k * 4, none⟩)), Sp.eq (.pointer (some ⟨b, off + k * 4 + 1, none⟩)), Sp.eq (.int .i64 x1), Sp.eq (.slice (some ⟨b', off', none⟩) n d), Sp.eq (.int .i64 k), Sp.eq (.pointer (some ⟨b', off' + k * 4, none⟩)), Sp.eq (.pointer (some ⟨b', off' + k * 4 + 1, none⟩)), Sp.eq (.int .i64 x1), Sp.eq (.bool false), Sp.eq (.bool false), Sp.eq (.bool false), Sp.eq (.slice (some ⟨b, off, none⟩) n c), Sp.eq (.int .i64 k), Sp.eq (.pointer (some ⟨b, off + k * 4, none⟩)), Sp.eq (.pointer (some ⟨b, off + k * 4 + 2, none⟩)), Sp.eq (.int .i64 x2), Sp.eq (.slice (some ⟨b', off', none⟩) n d), Sp.eq (.int .i64 k), Sp.eq (.pointer (some ⟨b', off' + k * 4, none⟩)), Sp.eq (.pointer (some ⟨b', off' + k * 4 + 2, none⟩)), Sp.eq (.int .i64 x2), Sp.eq (.bool false), Sp.eq (.bool false), Sp.eq (.bool false), Sp.eq (.slice (some ⟨b, off, none⟩) n c), Sp.eq (.int .i64 k), Sp.eq (.pointer (some ⟨b, off + k * 4, none⟩)), Sp.eq (.pointer (some ⟨b, off + k * 4 + 3, none⟩)), Sp.eq (.string (str x3)), Sp.eq (.slice (some ⟨b', off', none⟩) n d), Sp.eq (.int .i64 k), Sp.eq (.pointer (some ⟨b', off' + k * 4, none⟩)), Sp.eq (.pointer (some ⟨b', off' + k * 4 + 3, none⟩)), Sp.eq (.string (str x3)), Sp.eq (.bool false), Sp.eq (.bool false)] 67 (by kernel_rfl) (by kernel_rfl) rfl rfl ?_ ?_
      · refine ⟨?_, ?_, ?_, ?_, ?_, ?_, ?_, ?_, ?_, ?_, ?_, ?_, ?_, ?_, ?_, ?_, ?_, ?_, ?_, ?_, ?_, ?_, ?_, ?_, ?_, ?_, ?_, ?_, ?_, ?_, ?_, ?_, ?_, ?_, ?_, ?_, ?_, ?_, ?_, ?_, ?_, ?_, ?_, ?_, ?_, ?_, ?_, ?_, ?_, ?_, trivial⟩
        all_goals (intro u W2 hb2 hd; simp [Deps, Region.binds, Sp.eq_holds] at hd; simp only [putDeps, dstOf, Region.binds])
        case refine_1 =>
          go_wp2_with (fail); exact RelEnd.mk rfl (Below.refl _ _) rfl
        case refine_2 =>
          go_wp2_with (fail); exact RelEnd.mk rfl (Below.refl _ _) rfl
        case refine_3 =>
          go_wp2_with (fail); exact RelEnd.mk rfl (Below.refl _ _) rfl
        case refine_4 =>
          go_wp2_with (fail); exact RelEnd.mk rfl (Below.refl _ _) rfl
        case refine_5 =>
          have q : World.cell? W2 ⟨b, off + k * 4, none⟩ = some (.int .i64 x0) := (HX.out _ hb2).1
          go_wp2_with (fail); exact RelEnd.mk rfl (Below.refl _ _) rfl
        case refine_6 =>
          go_wp2_with (fail); exact RelEnd.mk rfl (Below.refl _ _) rfl
        case refine_7 =>
          go_wp2_with (fail); exact RelEnd.mk rfl (Below.refl _ _) rfl
        case refine_8 =>
          go_wp2_with (fail); exact RelEnd.mk rfl (Below.refl _ _) rfl
        case refine_9 =>
          go_wp2_with (fail); exact RelEnd.mk rfl (Below.refl _ _) rfl
        case refine_10 =>
          have q : World.cell? W2 ⟨b', off' + k * 4, none⟩ = some (.int .i64 x0) := (HY.out _ hb2).1
          go_wp2_with (fail); exact RelEnd.mk rfl (Below.refl _ _) rfl
        case refine_11 =>
          go_wp2_with (fail); exact RelEnd.mk rfl (Below.refl _ _) rfl
        case refine_12 =>
          go_wp2_with (fail); exact RelEnd.mk rfl (Below.refl _ _) rfl
        case refine_13 =>
          go_wp2_with (fail); exact RelEnd.mk rfl (Below.refl _ _) rfl
        case refine_14 =>
          go_wp2_with (fail); exact RelEnd.mk rfl (Below.refl _ _) rfl
        case refine_15 =>
          go_wp2_with (fail); exact RelEnd.mk rfl (Below.refl _ _) rfl
        case refine_16 =>
          go_wp2_with (fail); exact RelEnd.mk rfl (Below.refl _ _) rfl
        case refine_17 =>
          have q : World.cell? W2 ⟨b, off + k * 4 + 1, none⟩ = some (.int .i64 x1) := (HX.out _ hb2).2.1
          go_wp2_with (fail); exact RelEnd.mk rfl (Below.refl _ _) rfl
        case refine_18 =>
          go_wp2_with (fail); exact RelEnd.mk rfl (Below.refl _ _) rfl
        case refine_19 =>
          go_wp2_with (fail); exact RelEnd.mk rfl (Below.refl _ _) rfl
        case refine_20 =>
          go_wp2_with (fail); exact RelEnd.mk rfl (Below.refl _ _) rfl
        case refine_21 =>
          go_wp2_with (fail); exact RelEnd.mk rfl (Below.refl _ _) rfl
        case refine_22 =>
          have q : World.cell? W2 ⟨b', off' + k * 4 + 1, none⟩ = some (.int .i64 x1) := (HY.out _ hb2).2.1
          go_wp2_with (fail); exact RelEnd.mk rfl (Below.refl _ _) rfl
        case refine_23 =>
          go_wp2_with (fail); exact RelEnd.mk rfl (Below.refl _ _) rfl
        case refine_24 =>
          go_wp2_with (fail); exact RelEnd.mk rfl (Below.refl _ _) rfl
        case refine_25 =>
          go_wp2_with (fail); exact RelEnd.mk rfl (Below.refl _ _) rfl
        case refine_26 =>
          go_wp2_with (fail); exact RelEnd.mk rfl (Below.refl _ _) rfl
        case refine_27 =>
          go_wp2_with (fail); exact RelEnd.mk rfl (Below.refl _ _) rfl
        case refine_28 =>
          go_wp2_with (fail); exact RelEnd.mk rfl (Below.refl _ _) rfl
        case refine_29 =>
          go_wp2_with (fail); exact RelEnd.mk rfl (Below.refl _ _) rfl
        case refine_30 =>
          have q : World.cell? W2 ⟨b, off + k * 4 + 2, none⟩ = some (.int .i64 x2) := (HX.out _ hb2).2.2.1
          go_wp2_with (fail); exact RelEnd.mk rfl (Below.refl _ _) rfl
        case refine_31 =>
          go_wp2_with (fail); exact RelEnd.mk rfl (Below.refl _ _) rfl
        case refine_32 =>
          go_wp2_with (fail); exact RelEnd.mk rfl (Below.refl _ _) rfl
        case refine_33 =>
          go_wp2_with (fail); exact RelEnd.mk rfl (Below.refl _ _) rfl
        case refine_34 =>
          go_wp2_with (fail); exact RelEnd.mk rfl (Below.refl _ _) rfl
        case refine_35 =>
          have q : World.cell? W2 ⟨b', off' + k * 4 + 2, none⟩ = some (.int .i64 x2) := (HY.out _ hb2).2.2.1
          go_wp2_with (fail); exact RelEnd.mk rfl (Below.refl _ _) rfl
        case refine_36 =>
          go_wp2_with (fail); exact RelEnd.mk rfl (Below.refl _ _) rfl
        case refine_37 =>
          go_wp2_with (fail); exact RelEnd.mk rfl (Below.refl _ _) rfl
        case refine_38 =>
          go_wp2_with (fail); exact RelEnd.mk rfl (Below.refl _ _) rfl
        case refine_39 =>
          go_wp2_with (fail); exact RelEnd.mk rfl (Below.refl _ _) rfl
        case refine_40 =>
          go_wp2_with (fail); exact RelEnd.mk rfl (Below.refl _ _) rfl
        case refine_41 =>
          go_wp2_with (fail); exact RelEnd.mk rfl (Below.refl _ _) rfl
        case refine_42 =>
          go_wp2_with (fail); exact RelEnd.mk rfl (Below.refl _ _) rfl
        case refine_43 =>
          have q : World.cell? W2 ⟨b, off + k * 4 + 3, none⟩ = some (.string (str x3)) := (HX.out _ hb2).2.2.2
          go_wp2_with (fail); exact RelEnd.mk rfl (Below.refl _ _) rfl
        case refine_44 =>
          go_wp2_with (fail); exact RelEnd.mk rfl (Below.refl _ _) rfl
        case refine_45 =>
          go_wp2_with (fail); exact RelEnd.mk rfl (Below.refl _ _) rfl
        case refine_46 =>
          go_wp2_with (fail); exact RelEnd.mk rfl (Below.refl _ _) rfl
        case refine_47 =>
          go_wp2_with (fail); exact RelEnd.mk rfl (Below.refl _ _) rfl
        case refine_48 =>
          have q : World.cell? W2 ⟨b', off' + k * 4 + 3, none⟩ = some (.string (str x3)) := (HY.out _ hb2).2.2.2
          go_wp2_with (fail); exact RelEnd.mk rfl (Below.refl _ _) rfl
        case refine_49 =>
          go_wp2_with (fail); exact RelEnd.mk rfl (Below.refl _ _) rfl
        case refine_50 =>
          go_wp2_with (fail); exact RelEnd.mk rfl (Below.refl _ _) rfl
      · intro u W2 hb2 hold
        simp only [RelHold, Sp.eq_holds, Nat.reduceAdd] at hold
        obtain ⟨-, -, -, -, -, -, -, -, -, -, -, -, -, -, -, -, -, -, -, -, -, -, -, -, -, -, -, -, -, -, -, -, -, -, -, -, -, -, -, -, -, -, -, -, -, -, -, -, -, hE, -⟩ := hold
        simp only [putAll, Act.put, Nat.reduceAdd, List.setIfInBounds_toArray, List.set_cons_zero, List.set_cons_succ]
        rw [hE]
        have B2 := Lib.hid (B1.out.trans (hb2.mono B1.out.size))
        have h4 : k < n := HLT.out
        clear hb2 HX HY
        go_wp2_with (fail)
        go_roundw
        case rel => exact ⟨k + 1, by omega, by go_num, B2.out⟩
        case measure => simp [intOf]; omega
    · have hd : decide (k < n) = false := by simpa using hlt
      clear hlt
      go_wp2_with (fail)
      go_ret
      exact RetV.bool rfl B1.out
theorem RetAll.good {wt : TypeId} {w : World} {s : List UInt8} {e : Ending} {w' : World} (h : RetAll wt w s e w') (hs : s.length ≤ 1000) {ws : List Wd} (hl : lexS s = (ws, none)) : Below w.heap.size w w' ∧ ∃ v, e = .returned (.tuple #[v, .int .i64 0, .int .i64 0]) ∧ w'.ownsRow w.heap.size wt 4 v ws.length (ws.flatMap Wd.cells) := by
  obtain ⟨hb, h | ⟨_, ⟨k, hk, _⟩ | ⟨v, ws', hl', he, ho⟩⟩⟩ := h
  · omega
  · rw [hl] at hk; cases hk
  · rw [hl] at hl'; injection hl' with hl' _; subst hl'; exact ⟨hb, v, he, ho⟩
theorem RetAll.wrong {wt : TypeId} {w : World} {s : List UInt8} {e : Ending} {w' : World} (h : RetAll wt w s e w') (hs : s.length ≤ 1000) {k : Nat} (hl : (lexS s).2 = some k) : Below w.heap.size w w' ∧ e = .returned (.tuple #[.slice none 0 0, .int .i64 k, .int .i64 3]) := by
  obtain ⟨hb, h | ⟨_, ⟨k', hk, he⟩ | ⟨v, ws', hl', he, ho⟩⟩⟩ := h
  · omega
  · rw [hl] at hk; injection hk with hk; subst hk; exact ⟨hb, he⟩
  · rw [hl'] at hl; cases hl
abbrev ex1 : List UInt8 := [102, 105, 101, 108, 100, 32, 51, 32, 61, 32, 34, 97, 34]
abbrev ex2 : List UInt8 := [97, 32, 48, 55]
abbrev exW : List Wd := [⟨1, 0, 0, [102, 105, 101, 108, 100]⟩, ⟨2, 3, 6, []⟩, ⟨4, 0, 8, [61]⟩, ⟨3, 0, 10, [97]⟩]
theorem ex1_words : lexS ex1 = (exW, none) := by decide +kernel
theorem ex2_wrong : (lexS ex2).2 = some 2 := by decide +kernel
set_option maxHeartbeats 1000000 in
set_option maxRecDepth 4000 in
theorem c_law09_awake (w : World) : Calls Try.prog 5 #[] w (RetV w (.bool true)) := by
  go_enter Try.func5, Try.ntmps5
  go_wp2_with (fail)
  refine (c_lex_All ex1 _ (by decide)).mono ?_
  intro e w1 h1
  obtain ⟨hb1, v, rfl, own1⟩ := h1.good (by decide) ex1_words
  obtain ⟨A1, c1, rfl, in1⟩ := In.of_own Wd.cells_len own1 (by decide)
  clear h1 own1
  have B1 := Lib.hid hb1
  clear hb1
  go_wp2_with (fail)
  refine (c_lex_All ex2 _ (by decide)).mono ?_
  intro e w2 h2
  obtain ⟨hb2, rfl⟩ := h2.wrong (by decide) ex2_wrong
  clear h2
  obtain ⟨b, off, rfl, hb, RX⟩ := (in1.below hb2).wd (k := 3) (by decide)
  obtain ⟨r0, r1, r2, r3⟩ := RX w2 (Below.refl _ _)
  have q2 : w2.cell? ⟨b, off + 12 + 2, none⟩ = some (.int .i64 10) := r2
  have q3 : w2.cell? ⟨b, off + 12 + 3, none⟩ = some (.string (str [97])) := r3
  have q2' : w2.cell? ⟨b, off + 14, none⟩ = some (.int .i64 10) := r2
  have q3' : w2.cell? ⟨b, off + 15, none⟩ = some (.string (str [97])) := r3
  have hc := in1.1
  have hc2 := in1.2.1
  have B2 := Lib.hid (B1.out.trans (hb2.mono B1.out.size))
  clear RX r0 r1 r2 r3 in1 hb2 B1
  go_wp2_with (fail)
  go_ret
  exact RetV.bool rfl B2.out
end Go.Proofs.Ytfgjhgecmelccaa
namespace Go.Proofs.Ytfgjhgecmelccaa
open Go.RowKit

theorem boxC {W : World} {B : Nat} {v : Value} {t : TypeId} (h : W.heap[B]? = some (.cells #[v] t (0, 0))) : W.cell? ⟨B, 0, none⟩ = some v ∧ W.frozen? ⟨B, 0, none⟩ = false := by
  constructor <;> simp [World.cell?, World.frozen?, h]
theorem boxS {W : World} {B : Nat} {v : Value} {t : TypeId} (v' : Value) (h : W.heap[B]? = some (.cells #[v] t (0, 0))) : (W.setCell ⟨B, 0, none⟩ v').heap[B]? = some (.cells #[v'] t (0, 0)) := by
  obtain ⟨hlt, hk⟩ := Array.getElem?_eq_some_iff.1 h
  show (W.heap.modify B _)[B]? = _
  rw [Array.getElem?_eq_getElem (by rw [Array.size_modify]; exact hlt), Array.getElem_modify_self, hk]
  rfl
theorem In.heap {α : Type} {k : Nat} {cs : α → List Value} {W W' : World} {A : Option Addr} {c : Nat} {l : List α} (h : In k cs W A c l) (e : ∀ a, A = some a → W'.heap[a.block]? = W.heap[a.block]?) : In k cs W' A c l := by
  obtain ⟨h1, h2, h3, h4⟩ := h
  refine ⟨h1, h2, h3, ?_⟩
  rcases h4 with h4 | ⟨b, off, hA, hb, hr⟩
  · exact .inl h4
  · have hh := e _ hA
    refine .inr ⟨b, off, hA, ?_, hr.keep fun o => World.cell?_of_block (a := ⟨b, o, none⟩) hh⟩
    have h5 : W.heap[b]? = some W.heap[b] := Array.getElem?_eq_getElem hb
    exact (Array.getElem?_eq_some_iff.1 (hh.trans h5)).1
theorem below_grow {w w' : World} (h : Below w.heap.size w w') (q : Option Nat) : w.grownBy w' q := ⟨h.os, h.tape, h.output, h.size, fun k hk _ => h.block k hk⟩
/-- What a round leaves: the iterator's box, and the list's block. -/
def KpV (q : Nat) (A : Option Addr) (X Y : World) : Prop := Y.heap[q]? = X.heap[q]? ∧ ∀ a, A = some a → Y.heap[a.block]? = X.heap[a.block]?
theorem KpV.trans {q : Nat} {A : Option Addr} {X Y Z : World} (h : KpV q A X Y) (k : KpV q A Y Z) : KpV q A X Z := ⟨k.1.trans h.1, fun a e => (k.2 a e).trans (h.2 a e)⟩
/-- The box holds the list. -/
def ValT (q : Nat) (A : Option Addr) (c : Nat) (l : List Wd) (W : World) : Prop := W.heap[q]? = some (.cells #[.slice A l.length c] 23 (0, 0)) ∧ In 4 Wd.cells W A c l
theorem ValT.keep {q c : Nat} {A : Option Addr} {l : List Wd} {X Y : World} (h : ValT q A c l X) (k : KpV q A X Y) : ValT q A c l Y := ⟨k.1.trans h.1, h.2.heap k.2⟩
theorem ValT.below {q c : Nat} {A : Option Addr} {l : List Wd} {X Y : World} (h : ValT q A c l X) (hb : Below X.heap.size X Y) : ValT q A c l Y := ⟨(hb.block q (Array.getElem?_eq_some_iff.1 h.1).1).trans h.1, h.2.below hb⟩
def wdAt (l : List Wd) (k : Nat) : Wd := l.getD k ⟨0, 0, 0, []⟩
theorem wdAt_eq {l : List Wd} {k : Nat} (h : k < l.length) : wdAt l k = l[k] := by unfold wdAt; rw [List.getD_eq_getElem?_getD, List.getElem?_eq_getElem h]; rfl
def valEnc (l : List Wd) (k : Nat) : Array Value := #[.agg (wdA (wdAt l k).kind (wdAt l k).n (wdAt l k).pos (wdAt l k).s)]
set_option maxRecDepth 100000 in
set_option maxHeartbeats 1000000 in
theorem values_seq (n : Nat) (hn : 1 ≤ n) (q : Nat) (A : Option Addr) (c : Nat) (l : List Wd) :
    IdxSeq Fence.wide n Try.prog 36 #[.pointer (some ⟨q, 0, none⟩)] (valEnc l) (KpV q A) none l.length (ValT q A c l) := by
  intro lp J W hJq hY hT0 h0
  show CallsIn Fence.wide n Try.prog 36 #[.func (.yield lp) #[] #[], .pointer (some ⟨q, 0, none⟩)] W _
  refine callsIn_of_wp Try.func36 rfl trivial ?_ rfl
  simp only [Try.ntmps36, List.size_toArray, List.length_cons, List.length_nil, Nat.reduceAdd, Nat.reduceSub, Array.replicate_succ, Array.replicate_zero, List.push_toArray, List.append_toArray, List.nil_append, List.cons_append]
  obtain ⟨hcq, -⟩ := boxC hT0.1
  have hL := hT0.2.1
  have hC := hT0.2.2.1
  have hS := hT0.2.2.2.1
  gi_wp2
  gi_loopw [7] (fun i wr => ∃ (k : Nat), k ≤ l.length ∧ i = .int .i64 k ∧ ValT q A c l wr ∧ J k wr) (fun i _ => l.length - (intOf i).toNat)
  case atStart => exact ⟨0, by omega, rfl, hT0, h0⟩
  case round =>
    obtain ⟨k, hk, rfl, hT, hJ⟩ := hrel
    by_cases hlt : k < l.length
    · have d1 : decide (k < l.length) = true := by simpa using hlt
      obtain ⟨b, off, rfl, hb, RX⟩ := hT.2.wd hlt
      obtain ⟨c0, c1, c2, c3⟩ := RX wr (Below.refl _ _)
      have HW := Lib.hid (wdAt_eq hlt)
      obtain ⟨x0, hx0⟩ : ∃ x, x = l[k].kind := ⟨_, rfl⟩
      obtain ⟨x1, hx1⟩ : ∃ x, x = l[k].n := ⟨_, rfl⟩
      obtain ⟨x2, hx2⟩ : ∃ x, x = l[k].pos := ⟨_, rfl⟩
      obtain ⟨x3, hx3⟩ : ∃ x, x = l[k].s := ⟨_, rfl⟩
      have HE := Lib.hid (show valEnc l k = #[.agg (wdA x0 x1 x2 x3)] by unfold valEnc; rw [HW.out, hx0, hx1, hx2, hx3])
      rw [← hx0] at c0
      rw [← hx1] at c1
      rw [← hx2] at c2
      rw [← hx3] at c3
      have hk0 : (0 : Int) ≤ (k : Int) := by omega
      have hk1 : (k : Int) < (l.length : Int) := by omega
      clear RX HW hx0 hx1 hx2 hx3
      have hb2 : Below wr.heap.size wr (wr.alloc (.cells (wdA x0 x1 x2 x3) 34)) := (Below.refl _ _).alloc (Nat.le_refl _) _
      obtain ⟨fn, tmps, assign, body, hy, hR⟩ := hY k _ hlt (hJq _ _ _ hJ (below_grow hb2 none))
      rw [HE.out] at hy
      gi_wp2
      refine hR.mono ?_
      rintro e W3 ⟨rfl, hJ3, hK3⟩
      have hT3 := (hT.below hb2).keep hK3
      clear hy
      gi_wp2
      go_roundw
      case rel => exact ⟨k + 1, by omega, by go_num, hT3, hJ3⟩
      case measure => simp [intOf]; omega
    · obtain rfl : k = l.length := by omega
      have d1 : decide (l.length < l.length) = false := by simp
      clear hlt
      gi_wp2
      go_end0
      exact ⟨⟨_, rfl⟩, hJ⟩
end Go.Proofs.Ytfgjhgecmelccaa
