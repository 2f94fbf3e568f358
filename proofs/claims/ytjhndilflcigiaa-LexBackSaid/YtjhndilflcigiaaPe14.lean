/-
  The walks of the reference's Text, of the law's Same and of chapter 9's example. (Printed by gen09g.py.)
-/
import Derived.Test.YtjhndilflcigiaaPe13
import Derived.Test.YtjhndilflcigiaaRows
import Derived.WalkKit
import Derived.WalkSpells
import Derived.WalkLawsBesides
import Derived.Lib.Hide
import Derived.Deep.QuietTactic
import Derived.BigQuiet
import Derived.Maps.AppendAt
import Derived.WalkSmall
import Derived.ProofKit
import Derived.OpenShut
import Derived.JoinedCond
import Derived.Deep.Slices
import Derived.Deep.Fields
import Derived.Carry
import Derived.Deep.AppendSrc
import Derived.Lib.AppendStr
import Derived.Laws.BytesArg
import Derived.Test.YtjhndilflcigiaaProg
import Derived.Deep.CutBlock
import Derived.Deep.DeepCutAuto
import Derived.WalkMore
import Derived.ScopeJumps
import Derived.Lib.Bytealg
import Derived.Laws.Externs
import Derived.Laws.IdiomStrings
import Derived.Outline
import Derived.IntWalk
import Derived.StillTail
import Derived.Laws.Tables
import Derived.Laws.Rows
import Derived.ChangeKeysEq
import Derived.Laws.StructEq
namespace Go.Proofs.Ytjhndilflcigiaa
open Go.RowKit

set_option maxHeartbeats 1000000 in
theorem c_ref09_Text (k n p : Int) (s : List UInt8) (w : World) (hn : k = 2 → 0 ≤ n ∧ n ≤ 1099511627776) (hs : s.length ≤ 1000000) : Calls Try.prog 11 #[.agg (wdA k n p s)] w (RetV w (.string (str (wText k n s)))) := by
  have B0 := Lib.hid (At.new w 29 (wdA k n p s))
  have q0 := B0.out.2.cell (show (wdA k n p s)[0]? = _ from rfl)
  have q1 := B0.out.2.cell (show (wdA k n p s)[1]? = _ from rfl)
  have q3 := B0.out.2.cell (show (wdA k n p s)[3]? = _ from rfl)
  have hcs : k = 2 ∨ (k ≠ 2 ∧ k = 3) ∨ (k ≠ 2 ∧ k ≠ 3) := by omega
  rcases hcs with g | ⟨g, g'⟩ | ⟨g, g'⟩
  · obtain ⟨b0, b1⟩ := hn g
    obtain ⟨m, hm⟩ : ∃ m : Nat, n = m := ⟨n.toNat, by omega⟩
    have E := Lib.hid (show wText k n s = tens m by unfold wText; rw [if_pos g, hm]; rfl)
    have CT := Lib.hid (fun w' => show Calls Try.prog 35 #[.int .i64 n] w' (RetV w' (.string (str (tens m)))) by rw [hm]; exact c_ref03_Tens m (by omega) w')
    have j1 : (k == 2) = true := by simpa using g
    clear g hn hm b0 b1
    rw [E.out]
    go_enter Try.func11, Try.ntmps11
    go_wp2_with (fail)
    refine (CT.out _).mono ?_
    rintro e w2 ⟨rfl, hb2⟩
    go_wp2_with (fail)
    go_ret
    exact RetV.of rfl (B0.out.1.trans (hb2.mono B0.out.1.size))
  · have E := Lib.hid (show wText k n s = quote s by unfold wText; rw [if_neg g, if_pos g'])
    have CQ := Lib.hid (fun w' => c_ref04_Quote s w' hs)
    have j1 : (k == 2) = false := by simpa using g
    have j2 : (k == 3) = true := by simpa using g'
    clear g g' hn
    rw [E.out]
    go_enter Try.func11, Try.ntmps11
    go_wp2_with (fail)
    refine (CQ.out _).mono ?_
    rintro e w2 ⟨rfl, hb2⟩
    go_wp2_with (fail)
    go_ret
    exact RetV.of rfl (B0.out.1.trans (hb2.mono B0.out.1.size))
  · have E := Lib.hid (show wText k n s = s by unfold wText; rw [if_neg g, if_neg g'])
    have j1 : (k == 2) = false := by simpa using g
    have j2 : (k == 3) = false := by simpa using g'
    clear g g' hn
    rw [E.out]
    go_enter Try.func11, Try.ntmps11
    go_wp2_with (fail)
    go_ret
    exact RetV.of rfl B0.out.1
theorem In.wd {w : World} {A : Option Addr} {c : Nat} {l : List Wd} (h : In 4 Wd.cells w A c l) {k : Nat} (hk : k < l.length) : ∃ b off, A = some ⟨b, off, none⟩ ∧ b < w.heap.size ∧ ∀ w', Below w.heap.size w w' → w'.cell? ⟨b, off + k * 4, none⟩ = some (.int .i64 l[k].kind) ∧ w'.cell? ⟨b, off + k * 4 + 1, none⟩ = some (.int .i64 l[k].n) ∧ w'.cell? ⟨b, off + k * 4 + 2, none⟩ = some (.int .i64 l[k].pos) ∧ w'.cell? ⟨b, off + k * 4 + 3, none⟩ = some (.string (str l[k].s)) := by
  obtain ⟨b, off, hA, hb, hrow⟩ := h.at hk
  refine ⟨b, off, hA, hb, fun w' hw => ?_⟩
  have hr := hrow.below hw hb
  exact ⟨hr k hk 0 _ rfl, hr k hk 1 _ rfl, hr k hk 2 _ rfl, hr k hk 3 _ rfl⟩
set_option maxHeartbeats 4000000 in
set_option maxRecDepth 4000 in
theorem c_law09_Same (l : List Wd) (A B : Option Addr) (c d : Nat) (w : World) (hl : In 4 Wd.cells w A c l) (hm : In 4 Wd.cells w B d l) :
    Calls Try.prog 13 #[.slice A l.length c, .slice B l.length d] w (RetV w (.bool true)) := by
  obtain ⟨n, hn⟩ : ∃ n, n = l.length := ⟨_, rfl⟩
  have hL : n ≤ c := by rw [hn]; exact hl.1
  have hC := hl.2.1
  have hS : n ≤ 4294967296 := by rw [hn]; exact hl.2.2.1
  have hL' : n ≤ d := by rw [hn]; exact hm.1
  have hC' := hm.2.1
  have HNL := Lib.hid hn
  rw [← hn]
  have HL := Lib.hid hl
  have HM := Lib.hid hm
  clear hl hm hn
  go_enter Try.func13, Try.ntmps13
  go_wp2_with (fail)
  go_loopw [5] (fun i wr => ∃ k : Nat, k ≤ n ∧ i = .int .i64 k ∧ Hid (Below w.heap.size w wr))
    (fun i _ => n - (intOf i).toNat)
  case atStart => exact ⟨0, by omega, rfl, Below.refl _ _⟩
  case round =>
    obtain ⟨k, hk, rfl, B1⟩ := hrel
    by_cases hlt : k < n
    · have hd : decide (k < n) = true := by simpa using hlt
      have HLT := Lib.hid hlt
      have hkl : k < l.length := by rw [← HNL.out]; exact hlt
      obtain ⟨b, off, rfl, hb, RX⟩ := (HL.out.below B1.out).wd hkl
      obtain ⟨b', off', rfl, hb', RY⟩ := (HM.out.below B1.out).wd hkl
      obtain ⟨x0, hx0⟩ : ∃ x, x = l[k].kind := ⟨_, rfl⟩
      obtain ⟨x1, hx1⟩ : ∃ x, x = l[k].n := ⟨_, rfl⟩
      obtain ⟨x2, hx2⟩ : ∃ x, x = l[k].pos := ⟨_, rfl⟩
      obtain ⟨x3, hx3⟩ : ∃ x, x = l[k].s := ⟨_, rfl⟩
      rw [← hx0, ← hx1, ← hx2, ← hx3] at RX RY
      have HX := Lib.hid RX
      have HY := Lib.hid RY
      clear RX RY hlt hx0 hx1 hx2 hx3 hkl
      go_wp2_with (fail)
      refine wp_region_rel [Sp.eq (.slice (some ⟨b, off, none⟩) n c), Sp.eq (.int .i64 k), Sp.eq (.pointer (some ⟨b, off + k * 4, none⟩)), Sp.eq (.pointer (some ⟨b, off + k * 4, none⟩)), Sp.eq (.int .i64 x0), Sp.eq (.slice (some ⟨b', off', none⟩) n d), Sp.eq (.int .i64 k), Sp.eq (.pointer (some ⟨b', off' + k * 4, none⟩)), Sp.eq (.pointer (some ⟨b', off' + k * 4, none⟩)), Sp.eq (.int .i64 x0), Sp.eq (.bool false), Sp.eq (.bool false), Sp.eq (.slice (some ⟨b, off, none⟩) n c), Sp.eq (.int .i64 k), Sp.eq (.pointer (some ⟨b, off + k * 4, none⟩)), Sp.eq (.pointer (some ⟨b, off + k * 4 + 1, none⟩)), Sp.eq (.int .i64 x1), Sp.eq (.slice (some ⟨b', off', none⟩) n d), Sp.eq (.int .i64 k), Sp.eq (.pointer (some ⟨b', off' + k * 4, none⟩)), Sp.eq (.pointer (some ⟨b', off' + k * 4 + 1, none⟩)), Sp.eq (.int .i64 x1), Sp.eq (.bool false), Sp.eq (.bool false), Sp.eq (.bool false), Sp.eq (.slice (some ⟨b, off, none⟩) n c), Sp.eq (.int .i64 k), Sp.eq (.pointer (some ⟨b, off + k * 4, none⟩)), Sp.eq (.pointer (some ⟨b, off + k * 4 + 2, none⟩)), Sp.eq (.int .i64 x2), Sp.eq (.slice (some ⟨b', off', none⟩) n d), Sp.eq (.int .i64 k), Sp.eq (.pointer (some ⟨b', off' + k * 4, none⟩)), Sp.eq (.pointer (some ⟨b', off' + k * 4 + 2, none⟩)), Sp.eq (.int .i64 x2), Sp.eq (.bool false), Sp.eq (.bool false), Sp.eq (.bool false), Sp.eq (.slice (some ⟨b, off, none⟩) n c), Sp.eq (.int .i64 k), Sp.eq (.pointer (some ⟨b, off + k * 4, none⟩)), Sp.eq (.pointer (some ⟨b, off + k * 4 + 3, none⟩)), Sp.eq (.string (str x3)), Sp.eq (.slice (some ⟨b', off', none⟩) n d), Sp.eq (.int .i64 k), Sp.eq (.pointer (some ⟨b', off' + k * 4, none⟩)), Sp.eq (.pointer (some ⟨b', off' + k * 4 + 3, none⟩)), Sp.eq (.string (str x3)), Sp.eq (.bool false), Sp.eq (.bool false)] 67 (by kernel_rfl) (by kernel_rfl) rfl rfl ?_ ?_
      · refine ⟨?_, ?_, ?_, ?_, ?_, ?_, ?_, ?_, ?_, ?_, ?_, ?_, ?_, ?_, ?_, ?_, ?_, ?_, ?_, ?_, ?_, ?_, ?_, ?_, ?_, ?_, ?_, ?_, ?_, ?_, ?_, ?_, ?_, ?_, ?_, ?_, ?_, ?_, ?_, ?_, ?_, ?_, ?_, ?_, ?_, ?_, ?_, ?_, ?_, ?_, trivial⟩
        all_goals (intro u W2 hb2 hd; simp [Deps, Region.binds, Sp.eq_holds] at hd; simp only [putDeps, dstOf, Region.binds])
        case refine_1 =>
          go_wp2_with (fail); exact RelEnd.mk rfl (Below.refl _ _) rfl
        case refine_2 =>
          go_wp2_with (fail); exact RelEnd.mk rfl (Below.refl _ _) rfl
        case refine_3 =>
          go_wp2_with (fail); exact RelEnd.mk rfl (Below.refl _ _) rfl
        case refine_4 =>
          go_wp2_with (fail); exact RelEnd.mk rfl (Below.refl _ _) rfl
        case refine_5 =>
          have q : World.cell? W2 ⟨b, off + k * 4, none⟩ = some (.int .i64 x0) := (HX.out _ hb2).1
          go_wp2_with (fail); exact RelEnd.mk rfl (Below.refl _ _) rfl
        case refine_6 =>
          go_wp2_with (fail); exact RelEnd.mk rfl (Below.refl _ _) rfl
        case refine_7 =>
          go_wp2_with (fail); exact RelEnd.mk rfl (Below.refl _ _) rfl
        case refine_8 =>
          go_wp2_with (fail); exact RelEnd.mk rfl (Below.refl _ _) rfl
        case refine_9 =>
          go_wp2_with (fail); exact RelEnd.mk rfl (Below.refl _ _) rfl
        case refine_10 =>
          have q : World.cell? W2 ⟨b', off' + k * 4, none⟩ = some (.int .i64 x0) := (HY.out _ hb2).1
          go_wp2_with (fail); exact RelEnd.mk rfl (Below.refl _ _) rfl
        case refine_11 =>
          go_wp2_with (fail); exact RelEnd.mk rfl (Below.refl _ _) rfl
        case refine_12 =>
          go_wp2_with (fail); exact RelEnd.mk rfl (Below.refl _ _) rfl
        case refine_13 =>
          go_wp2_with (fail); exact RelEnd.mk rfl (Below.refl _ _) rfl
        case refine_14 =>
          go_wp2_with (fail); exact RelEnd.mk rfl (Below.refl _ _) rfl
        case refine_15 =>
          go_wp2_with (fail); exact RelEnd.mk rfl (Below.refl _ _) rfl
        case refine_16 =>
          go_wp2_with (fail); exact RelEnd.mk rfl (Below.refl _ _) rfl
        case refine_17 =>
          have q : World.cell? W2 ⟨b, off + k * 4 + 1, none⟩ = some (.int .i64 x1) := (HX.out _ hb2).2.1
          go_wp2_with (fail); exact RelEnd.mk rfl (Below.refl _ _) rfl
        case refine_18 =>
          go_wp2_with (fail); exact RelEnd.mk rfl (Below.refl _ _) rfl
        case refine_19 =>
          go_wp2_with (fail); exact RelEnd.mk rfl (Below.refl _ _) rfl
        case refine_20 =>
          go_wp2_with (fail); exact RelEnd.mk rfl (Below.refl _ _) rfl
        case refine_21 =>
          go_wp2_with (fail); exact RelEnd.mk rfl (Below.refl _ _) rfl
        case refine_22 =>
          have q : World.cell? W2 ⟨b', off' + k * 4 + 1, none⟩ = some (.int .i64 x1) := (HY.out _ hb2).2.1
          go_wp2_with (fail); exact RelEnd.mk rfl (Below.refl _ _) rfl
        case refine_23 =>
          go_wp2_with (fail); exact RelEnd.mk rfl (Below.refl _ _) rfl
        case refine_24 =>
          go_wp2_with (fail); exact RelEnd.mk rfl (Below.refl _ _) rfl
        case refine_25 =>
          go_wp2_with (fail); exact RelEnd.mk rfl (Below.refl _ _) rfl
        case refine_26 =>
          go_wp2_with (fail); exact RelEnd.mk rfl (Below.refl _ _) rfl
        case refine_27 =>
          go_wp2_with (fail); exact RelEnd.mk rfl (Below.refl _ _) rfl
        case refine_28 =>
          go_wp2_with (fail); exact RelEnd.mk rfl (Below.refl _ _) rfl
        case refine_29 =>
          go_wp2_with (fail); exact RelEnd.mk rfl (Below.refl _ _) rfl
        case refine_30 =>
          have q : World.cell? W2 ⟨b, off + k * 4 + 2, none⟩ = some (.int .i64 x2) := (HX.out _ hb2).2.2.1
          go_wp2_with (fail); exact RelEnd.mk rfl (Below.refl _ _) rfl
        case refine_31 =>
          go_wp2_with (fail); exact RelEnd.mk rfl (Below.refl _ _) rfl
        case refine_32 =>
          go_wp2_with (fail); exact RelEnd.mk rfl (Below.refl _ _) rfl
        case refine_33 =>
          go_wp2_with (fail); exact RelEnd.mk rfl (Below.refl _ _) rfl
        case refine_34 =>
          go_wp2_with (fail); exact RelEnd.mk rfl (Below.refl _ _) rfl
        case refine_35 =>
          have q : World.cell? W2 ⟨b', off' + k * 4 + 2, none⟩ = some (.int .i64 x2) := (HY.out _ hb2).2.2.1
          go_wp2_with (fail); exact RelEnd.mk rfl (Below.refl _ _) rfl
        case refine_36 =>
          go_wp2_with (fail); exact RelEnd.mk rfl (Below.refl _ _) rfl
        case refine_37 =>
          go_wp2_with (fail); exact RelEnd.mk rfl (Below.refl _ _) rfl
        case refine_38 =>
          go_wp2_with (fail); exact RelEnd.mk rfl (Below.refl _ _) rfl
        case refine_39 =>
          go_wp2_with (fail); exact RelEnd.mk rfl (Below.refl _ _) rfl
        case refine_40 =>
          go_wp2_with (fail); exact RelEnd.mk rfl (Below.refl _ _) rfl
        case refine_41 =>
          go_wp2_with (fail); exact RelEnd.mk rfl (Below.refl _ _) rfl
        case refine_42 =>
          go_wp2_with (fail); exact RelEnd.mk rfl (Below.refl _ _) rfl
        case refine_43 =>
          have q : World.cell? W2 ⟨b, off + k * 4 + 3, none⟩ = some (.string (str x3)) := (HX.out _ hb2).2.2.2
          go_wp2_with (fail); exact RelEnd.mk rfl (Below.refl _ _) rfl
        case refine_44 =>
          go_wp2_with (fail); exact RelEnd.mk rfl (Below.refl _ _) rfl
        case refine_45 =>
          go_wp2_with (fail); exact RelEnd.mk rfl (Below.refl _ _) rfl
        case refine_46 =>
          go_wp2_with (fail); exact RelEnd.mk rfl (Below.refl _ _) rfl
        case refine_47 =>
          go_wp2_with (fail); exact RelEnd.mk rfl (Below.refl _ _) rfl
        case refine_48 =>
          have q : World.cell? W2 ⟨b', off' + k * 4 + 3, none⟩ = some (.string (str x3)) := (HY.out _ hb2).2.2.2
          go_wp2_with (fail); exact RelEnd.mk rfl (Below.refl _ _) rfl
        case refine_49 =>
          go_wp2_with (fail); exact RelEnd.mk rfl (Below.refl _ _) rfl
        case refine_50 =>
          go_wp2_with (fail); exact RelEnd.mk rfl (Below.refl _ _) rfl
      · intro u W2 hb2 hold
        simp only [RelHold, Sp.eq_holds, Nat.reduceAdd] at hold
        obtain ⟨-, -, -, -, -, -, -, -, -, -, -, -, -, -, -, -, -, -, -, -, -, -, -, -, -, -, -, -, -, -, -, -, -, -, -, -, -, -, -, -, -, -, -, -, -, -, -, -, -, hE, -⟩ := hold
        simp only [putAll, Act.put, Nat.reduceAdd, List.setIfInBounds_toArray, List.set_cons_zero, List.set_cons_succ]
        rw [hE]
        have B2 := Lib.hid (B1.out.trans (hb2.mono B1.out.size))
        have h4 : k < n := HLT.out
        clear hb2 HX HY
        go_wp2_with (fail)
        go_roundw
        case rel => exact ⟨k + 1, by omega, by go_num, B2.out⟩
        case measure => simp [intOf]; omega
    · have hd : decide (k < n) = false := by simpa using hlt
      clear hlt
      go_wp2_with (fail)
      go_ret
      exact RetV.bool rfl B1.out
theorem RetAll.good {wt : TypeId} {w : World} {s : List UInt8} {e : Ending} {w' : World} (h : RetAll wt w s e w') (hs : s.length ≤ 1000) {ws : List Wd} (hl : lexS s = (ws, none)) : Below w.heap.size w w' ∧ ∃ v, e = .returned (.tuple #[v, .int .i64 0, .int .i64 0]) ∧ w'.ownsRow w.heap.size wt 4 v ws.length (ws.flatMap Wd.cells) := by
  obtain ⟨hb, h | ⟨_, ⟨k, hk, _⟩ | ⟨v, ws', hl', he, ho⟩⟩⟩ := h
  · omega
  · rw [hl] at hk; cases hk
  · rw [hl] at hl'; injection hl' with hl' _; subst hl'; exact ⟨hb, v, he, ho⟩
theorem RetAll.wrong {wt : TypeId} {w : World} {s : List UInt8} {e : Ending} {w' : World} (h : RetAll wt w s e w') (hs : s.length ≤ 1000) {k : Nat} (hl : (lexS s).2 = some k) : Below w.heap.size w w' ∧ e = .returned (.tuple #[.slice none 0 0, .int .i64 k, .int .i64 3]) := by
  obtain ⟨hb, h | ⟨_, ⟨k', hk, he⟩ | ⟨v, ws', hl', he, ho⟩⟩⟩ := h
  · omega
  · rw [hl] at hk; injection hk with hk; subst hk; exact ⟨hb, he⟩
  · rw [hl'] at hl; cases hl
abbrev ex1 : List UInt8 := [102, 105, 101, 108, 100, 32, 51, 32, 61, 32, 34, 97, 34]
abbrev ex2 : List UInt8 := [97, 32, 48, 55]
abbrev exW : List Wd := [⟨1, 0, 0, [102, 105, 101, 108, 100]⟩, ⟨2, 3, 6, []⟩, ⟨4, 0, 8, [61]⟩, ⟨3, 0, 10, [97]⟩]
theorem ex1_words : lexS ex1 = (exW, none) := by decide +kernel
theorem ex2_wrong : (lexS ex2).2 = some 2 := by decide +kernel
set_option maxHeartbeats 1000000 in
set_option maxRecDepth 4000 in
theorem c_law09_awake (w : World) : Calls Try.prog 10 #[] w (RetV w (.bool true)) := by
  go_enter Try.func10, Try.ntmps10
  go_wp2_with (fail)
  refine (c_lex_All ex1 _ (by decide)).mono ?_
  intro e w1 h1
  obtain ⟨hb1, v, rfl, own1⟩ := h1.good (by decide) ex1_words
  obtain ⟨A1, c1, rfl, in1⟩ := In.of_own Wd.cells_len own1 (by decide)
  clear h1 own1
  have B1 := Lib.hid hb1
  clear hb1
  go_wp2_with (fail)
  refine (c_lex_All ex2 _ (by decide)).mono ?_
  intro e w2 h2
  obtain ⟨hb2, rfl⟩ := h2.wrong (by decide) ex2_wrong
  clear h2
  obtain ⟨b, off, rfl, hb, RX⟩ := (in1.below hb2).wd (k := 3) (by decide)
  obtain ⟨r0, r1, r2, r3⟩ := RX w2 (Below.refl _ _)
  have q2 : w2.cell? ⟨b, off + 12 + 2, none⟩ = some (.int .i64 10) := r2
  have q3 : w2.cell? ⟨b, off + 12 + 3, none⟩ = some (.string (str [97])) := r3
  have q2' : w2.cell? ⟨b, off + 14, none⟩ = some (.int .i64 10) := r2
  have q3' : w2.cell? ⟨b, off + 15, none⟩ = some (.string (str [97])) := r3
  have hc := in1.1
  have hc2 := in1.2.1
  have B2 := Lib.hid (B1.out.trans (hb2.mono B1.out.size))
  clear RX r0 r1 r2 r3 in1 hb2 B1
  go_wp2_with (fail)
  go_ret
  exact RetV.bool rfl B2.out
end Go.Proofs.Ytjhndilflcigiaa
