/-
  The walk of the statement TokenBack: it answers true, whatever the three tokens.
-/
import Derived.Test.YtfgjhgecmelccaaDoorTb12
import Derived.Test.YtfgjhgecmelccaaDoorRows
import Derived.WalkKit
import Derived.WalkSpells
import Derived.WalkLawsBesides
import Derived.Lib.Hide
import Derived.Deep.QuietTactic
import Derived.BigQuiet
import Derived.Maps.AppendAt
import Derived.WalkSmall
import Derived.ProofKit
import Derived.OpenShut
import Derived.JoinedCond
import Derived.Deep.Slices
import Derived.Deep.Fields
import Derived.Carry
import Derived.HandedShaped
import Derived.Shelf.Strings.Builder1
import Derived.Shelf.Strings.Builder2
import Derived.Shelf.Strings.OnBuilder
import Derived.Shelf.Small.Wraps
import Derived.Shelf.Utf8.RuneCount
import Derived.Shelf.Strconv.Itoa0
import Derived.Shelf.Strconv.Itoa1
import Derived.Shelf.LaysM
import Derived.Shelf.Strconv.Itoa2
import Derived.Shelf.Strconv.Itoa3
import Derived.Shelf.Strings.Search1
import Derived.Shelf.Strings.Search2
import Derived.Shelf.Strings.Search3
import Derived.Shelf.Strings.Count
import Derived.Shelf.Strings.Shaped
import Derived.Shelf.Strings.Split
import Derived.Shelf.Strings.SplitShaped
import Derived.Shelf.Unicode.Decode
import Derived.Shelf.Strings.RuneCount
import Derived.Shelf.Strings.Explode
import Derived.Shelf.Unicode.DecodeSlow
import Derived.Test.YtfgjhgecmelccaaDoorProg
import Derived.Deep.AppendSrc
import Derived.Lib.AppendStr
import Derived.Laws.BytesArg
import Derived.Lib.AppendIntMem
import Derived.Lib.ItoaLen
import Derived.Lib.TrailingZeros
import Derived.Lib.SplitLaws
import Derived.Lib.ItoaNum
import Derived.Shelf.Strings.PiecesUse
import Derived.Shelf.Spec.TrailingZeros
import Derived.RangeFuncNested
import Derived.RangeFuncBound
import Derived.RangeFuncCalls
import Derived.RangeFuncLeaves
import Derived.Shelf.Abstract
import Derived.Shelf.RegionOpen
import Derived.OwnWalkIn
import Derived.TacticsInMore
import Derived.LoopNIn
import Derived.LoopIn
import Derived.Test.YtfgjhgecmelccaaDoorTie
import Derived.Lib.LaidTab
import Derived.LaidMore
import Derived.Lay
import Derived.Stop.LaidErr
import Derived.SevenTiedAt
import Derived.Test.YtfgjhgecmelccaaDoorCards
import Derived.Deep.CutBlock
import Derived.Deep.DeepCutAuto
import Derived.Laws.Tables
import Derived.Laws.Rows
import Derived.Laws.CopyOwn
import Derived.Outline
import Derived.IntWalk
import Derived.Lib.EndianBits
import Derived.StillTail
import Derived.Laws.IdiomStrings
import Derived.ChangeKeysEq
import Derived.Laws.StructEq
namespace Go.Proofs.YtfgjhgecmelccaaDoor
open Go.RowKit

abbrev arr3 (a b c : Tok) : Array Value := #[.int .i64 a.dev, .int .i64 a.epoch, .int .i64 a.seq, .int .i64 a.cursor, .int .i64 b.dev, .int .i64 b.epoch, .int .i64 b.seq, .int .i64 b.cursor, .int .i64 c.dev, .int .i64 c.epoch, .int .i64 c.seq, .int .i64 c.cursor]
theorem arr3_a {a b c : Tok} {w : World} {g : Nat} (h : Blk w g (arr3 a b c)) : ∀ (j : Nat) u, a.arr[j]? = some u → w.cell? ⟨g, 0 + j, none⟩ = some u := by
  intro j u hu
  have hj : j < 4 := (Array.getElem?_eq_some_iff.1 hu).1
  rw [Nat.zero_add]
  refine h.cell ?_
  rcases (show j = 0 ∨ j = 1 ∨ j = 2 ∨ j = 3 by omega) with rfl | rfl | rfl | rfl <;> exact hu
theorem arr3_b {a b c : Tok} {w : World} {g : Nat} (h : Blk w g (arr3 a b c)) : ∀ (j : Nat) u, b.arr[j]? = some u → w.cell? ⟨g, 4 + j, none⟩ = some u := by
  intro j u hu
  have hj : j < 4 := (Array.getElem?_eq_some_iff.1 hu).1
  refine h.cell ?_
  rcases (show j = 0 ∨ j = 1 ∨ j = 2 ∨ j = 3 by omega) with rfl | rfl | rfl | rfl <;> exact hu
theorem arr3_c {a b c : Tok} {w : World} {g : Nat} (h : Blk w g (arr3 a b c)) : ∀ (j : Nat) u, c.arr[j]? = some u → w.cell? ⟨g, 8 + j, none⟩ = some u := by
  intro j u hu
  have hj : j < 4 := (Array.getElem?_eq_some_iff.1 hu).1
  refine h.cell ?_
  rcases (show j = 0 ∨ j = 1 ∨ j = 2 ∨ j = 3 by omega) with rfl | rfl | rfl | rfl <;> exact hu
set_option maxHeartbeats 8000000 in
set_option maxRecDepth 10000 in
theorem c_law26_TokenBack (a b c : Tok) (w : World) (hP : PowTab w) (hM : MaxV w) : Calls Tryd.prog 9 #[.agg (arr3 a b c)] w (RetV w (.bool true)) := by
  have Bw := Lib.hid ((Below.refl w.heap.size w).alloc (Nat.le_refl _) (.cells (arr3 a b c) 85))
  have BA := Lib.hid (Blk.new w 85 (arr3 a b c))
  have HP := Lib.hid (fun w' (hb : Below w.heap.size w w') => hP.below hb)
  have HM := Lib.hid (fun w' (hb : Below w.heap.size w w') => hM.below hb)
  have C1 := Lib.hid (c_token_Goes a b)
  have C2 := Lib.hid (c_token_Goes b c)
  have C3 := Lib.hid (c_token_Goes a c)
  have CD := Lib.hid (c_ref26_Check a)
  have CS := Lib.hid (fun w' (hb : Below w.heap.size w w') => c_token_Show a w' (hP.below hb))
  have CP := Lib.hid (fun w' => c_token_Put [] none 0 a w' (In.nil (by omega)) (by simp))
  clear hP hM
  cases g1 : a.goes b
  · replace C1 := Lib.hid (by have := C1.out; rw [g1] at this; exact this)
    clear g1
    go_enter Tryd.func9, Tryd.ntmps9
    go_wp2_with (with_reducible refine stop_loadG 72 (.tmp 7) rfl ?_)
    refine Stop.mk (wpList_loadAtG (by rfl) _ _ rfl w.heap.size 0 rfl _ (arr3_a BA.out) strTk rfl ?_)
    go_wp2_with (with_reducible refine stop_loadG 72 (.tmp 9) rfl ?_)
    refine Stop.mk (wpList_loadAtG (by rfl) _ _ rfl w.heap.size 4 rfl _ (arr3_b BA.out) strTk rfl ?_)
    go_wp2_with (fail)
    refine (C1.out _).mono ?_
    rintro e w1 ⟨rfl, hb1⟩
    replace Bw := Lib.hid (Bw.out.trans (hb1.mono Bw.out.size))
    replace BA := Lib.hid (BA.out.below hb1 BA.out.lt)
    clear hb1
    cases hok : a.ok
    · replace CD := Lib.hid (by have := CD.out; rw [hok] at this; exact this)
      replace CS := Lib.hid (by have := CS.out; rw [tokT_bad hok] at this; exact this)
      replace CP := Lib.hid (by have := CP.out; rw [tokB_bad hok] at this; exact this)
      clear hok
      go_wp2_with (with_reducible refine stop_loadG 72 (.tmp 27) rfl ?_)
      refine Stop.mk (wpList_loadAtG (by rfl) _ _ rfl w.heap.size 0 rfl _ (arr3_a BA.out) strTk rfl ?_)
      go_wp2_with (fail)
      refine (CD.out _).mono ?_
      rintro e w1 ⟨rfl, hb1⟩
      replace Bw := Lib.hid (Bw.out.trans (hb1.mono Bw.out.size))
      replace BA := Lib.hid (BA.out.below hb1 BA.out.lt)
      clear hb1
      go_wp2_with (with_reducible refine stop_loadG 72 (.tmp 31) rfl ?_)
      refine Stop.mk (wpList_loadAtG (by rfl) _ _ rfl w.heap.size 0 rfl _ (arr3_a BA.out) strTk rfl ?_)
      go_wp2_with (fail)
      refine (CS.out _ Bw.out).mono ?_
      rintro e w1 ⟨rfl, hb1⟩
      replace Bw := Lib.hid (Bw.out.trans (hb1.mono Bw.out.size))
      replace BA := Lib.hid (BA.out.below hb1 BA.out.lt)
      clear hb1
      go_wp2_with (with_reducible refine stop_loadG 72 (.tmp 36) rfl ?_)
      refine Stop.mk (wpList_loadAtG (by rfl) _ _ rfl w.heap.size 0 rfl _ (arr3_a BA.out) strTk rfl ?_)
      go_wp2_with (fail)
      refine (CP.out _).mono ?_
      rintro e w1 ⟨v1, rfl, own1, hb1⟩
      obtain ⟨A2, c2, rfl, in2⟩ := In.of_own bc_len own1 (by simp)
      replace Bw := Lib.hid (Bw.out.trans (hb1.mono Bw.out.size))
      have hC2 := in2.2.1
      clear own1 in2 hb1
      go_wp2_with (fail)
      refine (c_law26_awake _ (HP.out _ Bw.out)).mono ?_
      rintro e w9 ⟨rfl, hb9⟩
      go_wp2_with (fail)
      go_ret
      exact RetV.bool rfl (Bw.out.trans (hb9.mono Bw.out.size))
    · replace CD := Lib.hid (by have := CD.out; rw [hok] at this; exact this)
      have CG := Lib.hid (by have := c_token_Goes a a; rw [Tok.goes_self hok] at this; exact this)
      have CR := Lib.hid (show rdTok ⟨tokB a, 0⟩ = a ∧ rdTok' ⟨tokB a, 0⟩ = ⟨[], 0⟩ by have := rdTok_put hok []; rw [List.append_nil] at this; exact this)
      have CQ := Lib.hid (fun w' (hm : MaxV w') => show Calls Tryd.prog 31 #[.string (str (tokT a))] w' (RetV w' (.tuple #[.agg a.arr, .bool true])) by
        have h := c_token_Parse (tokT a) (by have := tokT_len a; omega) w' hm
        rw [(tkV_some (tkParse_text hok)).1, (tkV_some (tkParse_text hok)).2] at h
        exact h)
      have hzl : (tokB a).length ≤ 28 := by
        rw [tokB_ok hok]
        have := (num_len a.dev).2; have := (num_len a.epoch).2; have := (num_len a.seq).2; have := (num_len a.cursor).2
        simp only [List.length_append]; omega
      obtain ⟨z, hz⟩ : ∃ z, tokB a = z := ⟨_, rfl⟩
      rw [hz] at CP CR hzl
      rw [List.nil_append] at CP
      obtain ⟨t, ht⟩ : ∃ t, tokT a = t := ⟨_, rfl⟩
      rw [ht] at CS CQ
      clear hok hz ht
      go_wp2_with (with_reducible refine stop_loadG 72 (.tmp 27) rfl ?_)
      refine Stop.mk (wpList_loadAtG (by rfl) _ _ rfl w.heap.size 0 rfl _ (arr3_a BA.out) strTk rfl ?_)
      go_wp2_with (fail)
      refine (CD.out _).mono ?_
      rintro e w1 ⟨rfl, hb1⟩
      replace Bw := Lib.hid (Bw.out.trans (hb1.mono Bw.out.size))
      replace BA := Lib.hid (BA.out.below hb1 BA.out.lt)
      clear hb1
      go_wp2_with (with_reducible refine stop_loadG 72 (.tmp 45) rfl ?_)
      refine Stop.mk (wpList_loadAtG (by rfl) _ _ rfl w.heap.size 0 rfl _ (arr3_a BA.out) strTk rfl ?_)
      go_wp2_with (fail)
      refine (CP.out _).mono ?_
      rintro e w1 ⟨v1, rfl, own1, hb1⟩
      obtain ⟨A2, c2, rfl, in2⟩ := In.of_own bc_len own1 (by omega)
      replace Bw := Lib.hid (Bw.out.trans (hb1.mono Bw.out.size))
      replace BA := Lib.hid (BA.out.below hb1 BA.out.lt)
      have HI := Lib.hid in2
      clear own1 in2 hb1
      go_wp2_with (fail)
      refine (c_octet_New z A2 c2 _ HI.out).mono ?_
      rintro e w2 ⟨g, rfl, hg, hr1, hb2⟩
      have hgg := BA.out.lt
      replace Bw := Lib.hid (Bw.out.trans (hb2.mono Bw.out.size))
      replace BA := Lib.hid (BA.out.below hb2 BA.out.lt)
      have E := Lib.hid (EnvP.start hr1)
      clear hr1 hb2 HI
      go_wp2_with (fail)
      refine (c_token_Read (some g) ⟨z, 0⟩ _ E.out.rd).mono ?_
      rintro e w3 ⟨rfl, hr3, hk3⟩
      rw [CR.out.1]
      replace E := Lib.hid ((E.out.call hr3 hk3).state CR.out.2)
      clear hr3 hk3
      go_wp2_with (with_reducible refine stop_store 72 (.tmp 4) (.tmp 50) rfl rfl ?_)
      replace E := Lib.hid (E.out.alloc 72 tz.arr)
      refine Stop.mk (wpList_storeB rfl _ _ _ rfl w3.heap.size _ rfl rfl _ E.out.b0 strTk rfl rfl (by simp [Value.oneCell']) ?_)
      intro w4 hb4 hk4
      replace E := Lib.hid (E.out.put0 hb4 hk4)
      obtain ⟨g4, hg4⟩ : ∃ g, g = w3.heap.size := ⟨_, rfl⟩
      rw [← hg4] at E ⊢
      clear hb4 hk4 hg4
      have BAE := Lib.hid (BA.out.kept E.out.kept BA.out.lt (fun e => by injection e with e; omega))
      go_wp2_with (with_reducible refine stop_loadG 72 (.tmp 52) rfl ?_)
      refine Stop.mk (wpList_loadAtG (by rfl) _ _ rfl w.heap.size 0 rfl _ (arr3_a BAE.out) strTk rfl ?_)
      clear BAE
      go_wp2_with (fail)
      refine (CS.out _ (Bw.out.trans (E.out.kept.oneB Bw.out.size (by omega)))).mono ?_
      rintro e w9 ⟨rfl, hb9⟩
      replace E := Lib.hid (E.out.below hb9)
      clear hb9
      go_wp2_with (fail)
      refine (CQ.out _ (HM.out _ (Bw.out.trans (E.out.kept.oneB Bw.out.size (by omega))))).mono ?_
      rintro e w9 ⟨rfl, hb9⟩
      replace E := Lib.hid (E.out.below hb9)
      clear hb9
      rename_i w5
      go_wp2_with (with_reducible refine stop_store 72 (.tmp 5) (.tmp 56) rfl rfl ?_)
      replace E := Lib.hid (E.out.alloc 72 tz.arr)
      refine Stop.mk (wpList_storeB rfl _ _ _ rfl w9.heap.size _ rfl rfl _ E.out.b0 strTk rfl rfl (by simp [Value.oneCell']) ?_)
      intro w6 hb6 hk6
      replace E := Lib.hid (E.out.put0 hb6 hk6)
      obtain ⟨g5, hg5⟩ : ∃ g, g = w9.heap.size := ⟨_, rfl⟩
      rw [← hg5] at E ⊢
      clear hb6 hk6 hg5
      go_wp2_with (with_reducible refine stop_loadG 72 (.tmp 4) rfl ?_)
      refine Stop.mk (wpList_loadAtG (by rfl) _ _ rfl g4 0 rfl _ E.out.b1.all strTk rfl ?_)
      have BAE := Lib.hid (BA.out.kept E.out.kept BA.out.lt (fun e => by injection e with e; omega))
      go_wp2_with (with_reducible refine stop_loadG 72 (.tmp 59) rfl ?_)
      refine Stop.mk (wpList_loadAtG (by rfl) _ _ rfl w.heap.size 0 rfl _ (arr3_a BAE.out) strTk rfl ?_)
      clear BAE
      go_wp2_with (with_reducible refine stop_bin .eql 72 (.tmp 58) (.tmp 60) 72 rfl ?_)
      refine Stop.mk (wpList_eqlS (by rfl) _ _ _ _ rfl a.arr a.arr rfl rfl gT true ((eq_tok 9998 a a _).trans (by simp)) ?_)
      go_wp2_with (fail)
      refine (c_octet_End (some g) ⟨[], 0⟩ _ E.out.rd).mono ?_
      rintro e w9 ⟨rfl, hb9⟩
      replace E := Lib.hid (E.out.below hb9)
      clear hb9
      rw [show rdEnd ⟨[], 0⟩ = 0 by decide]
      go_wp2_with (with_reducible refine stop_loadG 72 (.tmp 5) rfl ?_)
      refine Stop.mk (wpList_loadAtG (by rfl) _ _ rfl g5 0 rfl _ E.out.b0.all strTk rfl ?_)
      have BAE := Lib.hid (BA.out.kept E.out.kept BA.out.lt (fun e => by injection e with e; omega))
      go_wp2_with (with_reducible refine stop_loadG 72 (.tmp 69) rfl ?_)
      refine Stop.mk (wpList_loadAtG (by rfl) _ _ rfl w.heap.size 0 rfl _ (arr3_a BAE.out) strTk rfl ?_)
      clear BAE
      go_wp2_with (with_reducible refine stop_bin .eql 72 (.tmp 68) (.tmp 70) 72 rfl ?_)
      refine Stop.mk (wpList_eqlS (by rfl) _ _ _ _ rfl a.arr a.arr rfl rfl gT true ((eq_tok 9998 a a _).trans (by simp)) ?_)
      have BAE := Lib.hid (BA.out.kept E.out.kept BA.out.lt (fun e => by injection e with e; omega))
      go_wp2_with (with_reducible refine stop_loadG 72 (.tmp 77) rfl ?_)
      refine Stop.mk (wpList_loadAtG (by rfl) _ _ rfl w.heap.size 0 rfl _ (arr3_a BAE.out) strTk rfl ?_)
      clear BAE
      have BAE := Lib.hid (BA.out.kept E.out.kept BA.out.lt (fun e => by injection e with e; omega))
      go_wp2_with (with_reducible refine stop_loadG 72 (.tmp 79) rfl ?_)
      refine Stop.mk (wpList_loadAtG (by rfl) _ _ rfl w.heap.size 0 rfl _ (arr3_a BAE.out) strTk rfl ?_)
      clear BAE
      go_wp2_with (fail)
      refine (CG.out _).mono ?_
      rintro e w9 ⟨rfl, hb9⟩
      replace E := Lib.hid (E.out.below hb9)
      clear hb9
      go_wp2_with (fail)
      refine (c_law26_awake _ (HP.out _ (Bw.out.trans (E.out.kept.oneB Bw.out.size (by omega))))).mono ?_
      rintro e w9 ⟨rfl, hb9⟩
      replace E := Lib.hid (E.out.below hb9)
      clear hb9
      go_wp2_with (fail)
      go_ret
      exact RetV.bool rfl (Bw.out.trans (E.out.kept.oneB Bw.out.size (by omega)))
  · replace C1 := Lib.hid (by have := C1.out; rw [g1] at this; exact this)
    cases g2 : b.goes c
    · replace C2 := Lib.hid (by have := C2.out; rw [g2] at this; exact this)
      clear g1 g2
      go_enter Tryd.func9, Tryd.ntmps9
      go_wp2_with (with_reducible refine stop_loadG 72 (.tmp 7) rfl ?_)
      refine Stop.mk (wpList_loadAtG (by rfl) _ _ rfl w.heap.size 0 rfl _ (arr3_a BA.out) strTk rfl ?_)
      go_wp2_with (with_reducible refine stop_loadG 72 (.tmp 9) rfl ?_)
      refine Stop.mk (wpList_loadAtG (by rfl) _ _ rfl w.heap.size 4 rfl _ (arr3_b BA.out) strTk rfl ?_)
      go_wp2_with (fail)
      refine (C1.out _).mono ?_
      rintro e w1 ⟨rfl, hb1⟩
      replace Bw := Lib.hid (Bw.out.trans (hb1.mono Bw.out.size))
      replace BA := Lib.hid (BA.out.below hb1 BA.out.lt)
      clear hb1
      go_wp2_with (with_reducible refine stop_loadG 72 (.tmp 13) rfl ?_)
      refine Stop.mk (wpList_loadAtG (by rfl) _ _ rfl w.heap.size 4 rfl _ (arr3_b BA.out) strTk rfl ?_)
      go_wp2_with (with_reducible refine stop_loadG 72 (.tmp 15) rfl ?_)
      refine Stop.mk (wpList_loadAtG (by rfl) _ _ rfl w.heap.size 8 rfl _ (arr3_c BA.out) strTk rfl ?_)
      go_wp2_with (fail)
      refine (C2.out _).mono ?_
      rintro e w1 ⟨rfl, hb1⟩
      replace Bw := Lib.hid (Bw.out.trans (hb1.mono Bw.out.size))
      replace BA := Lib.hid (BA.out.below hb1 BA.out.lt)
      clear hb1
      cases hok : a.ok
      · replace CD := Lib.hid (by have := CD.out; rw [hok] at this; exact this)
        replace CS := Lib.hid (by have := CS.out; rw [tokT_bad hok] at this; exact this)
        replace CP := Lib.hid (by have := CP.out; rw [tokB_bad hok] at this; exact this)
        clear hok
        go_wp2_with (with_reducible refine stop_loadG 72 (.tmp 27) rfl ?_)
        refine Stop.mk (wpList_loadAtG (by rfl) _ _ rfl w.heap.size 0 rfl _ (arr3_a BA.out) strTk rfl ?_)
        go_wp2_with (fail)
        refine (CD.out _).mono ?_
        rintro e w1 ⟨rfl, hb1⟩
        replace Bw := Lib.hid (Bw.out.trans (hb1.mono Bw.out.size))
        replace BA := Lib.hid (BA.out.below hb1 BA.out.lt)
        clear hb1
        go_wp2_with (with_reducible refine stop_loadG 72 (.tmp 31) rfl ?_)
        refine Stop.mk (wpList_loadAtG (by rfl) _ _ rfl w.heap.size 0 rfl _ (arr3_a BA.out) strTk rfl ?_)
        go_wp2_with (fail)
        refine (CS.out _ Bw.out).mono ?_
        rintro e w1 ⟨rfl, hb1⟩
        replace Bw := Lib.hid (Bw.out.trans (hb1.mono Bw.out.size))
        replace BA := Lib.hid (BA.out.below hb1 BA.out.lt)
        clear hb1
        go_wp2_with (with_reducible refine stop_loadG 72 (.tmp 36) rfl ?_)
        refine Stop.mk (wpList_loadAtG (by rfl) _ _ rfl w.heap.size 0 rfl _ (arr3_a BA.out) strTk rfl ?_)
        go_wp2_with (fail)
        refine (CP.out _).mono ?_
        rintro e w1 ⟨v1, rfl, own1, hb1⟩
        obtain ⟨A2, c2, rfl, in2⟩ := In.of_own bc_len own1 (by simp)
        replace Bw := Lib.hid (Bw.out.trans (hb1.mono Bw.out.size))
        have hC2 := in2.2.1
        clear own1 in2 hb1
        go_wp2_with (fail)
        refine (c_law26_awake _ (HP.out _ Bw.out)).mono ?_
        rintro e w9 ⟨rfl, hb9⟩
        go_wp2_with (fail)
        go_ret
        exact RetV.bool rfl (Bw.out.trans (hb9.mono Bw.out.size))
      · replace CD := Lib.hid (by have := CD.out; rw [hok] at this; exact this)
        have CG := Lib.hid (by have := c_token_Goes a a; rw [Tok.goes_self hok] at this; exact this)
        have CR := Lib.hid (show rdTok ⟨tokB a, 0⟩ = a ∧ rdTok' ⟨tokB a, 0⟩ = ⟨[], 0⟩ by have := rdTok_put hok []; rw [List.append_nil] at this; exact this)
        have CQ := Lib.hid (fun w' (hm : MaxV w') => show Calls Tryd.prog 31 #[.string (str (tokT a))] w' (RetV w' (.tuple #[.agg a.arr, .bool true])) by
          have h := c_token_Parse (tokT a) (by have := tokT_len a; omega) w' hm
          rw [(tkV_some (tkParse_text hok)).1, (tkV_some (tkParse_text hok)).2] at h
          exact h)
        have hzl : (tokB a).length ≤ 28 := by
          rw [tokB_ok hok]
          have := (num_len a.dev).2; have := (num_len a.epoch).2; have := (num_len a.seq).2; have := (num_len a.cursor).2
          simp only [List.length_append]; omega
        obtain ⟨z, hz⟩ : ∃ z, tokB a = z := ⟨_, rfl⟩
        rw [hz] at CP CR hzl
        rw [List.nil_append] at CP
        obtain ⟨t, ht⟩ : ∃ t, tokT a = t := ⟨_, rfl⟩
        rw [ht] at CS CQ
        clear hok hz ht
        go_wp2_with (with_reducible refine stop_loadG 72 (.tmp 27) rfl ?_)
        refine Stop.mk (wpList_loadAtG (by rfl) _ _ rfl w.heap.size 0 rfl _ (arr3_a BA.out) strTk rfl ?_)
        go_wp2_with (fail)
        refine (CD.out _).mono ?_
        rintro e w1 ⟨rfl, hb1⟩
        replace Bw := Lib.hid (Bw.out.trans (hb1.mono Bw.out.size))
        replace BA := Lib.hid (BA.out.below hb1 BA.out.lt)
        clear hb1
        go_wp2_with (with_reducible refine stop_loadG 72 (.tmp 45) rfl ?_)
        refine Stop.mk (wpList_loadAtG (by rfl) _ _ rfl w.heap.size 0 rfl _ (arr3_a BA.out) strTk rfl ?_)
        go_wp2_with (fail)
        refine (CP.out _).mono ?_
        rintro e w1 ⟨v1, rfl, own1, hb1⟩
        obtain ⟨A2, c2, rfl, in2⟩ := In.of_own bc_len own1 (by omega)
        replace Bw := Lib.hid (Bw.out.trans (hb1.mono Bw.out.size))
        replace BA := Lib.hid (BA.out.below hb1 BA.out.lt)
        have HI := Lib.hid in2
        clear own1 in2 hb1
        go_wp2_with (fail)
        refine (c_octet_New z A2 c2 _ HI.out).mono ?_
        rintro e w2 ⟨g, rfl, hg, hr1, hb2⟩
        have hgg := BA.out.lt
        replace Bw := Lib.hid (Bw.out.trans (hb2.mono Bw.out.size))
        replace BA := Lib.hid (BA.out.below hb2 BA.out.lt)
        have E := Lib.hid (EnvP.start hr1)
        clear hr1 hb2 HI
        go_wp2_with (fail)
        refine (c_token_Read (some g) ⟨z, 0⟩ _ E.out.rd).mono ?_
        rintro e w3 ⟨rfl, hr3, hk3⟩
        rw [CR.out.1]
        replace E := Lib.hid ((E.out.call hr3 hk3).state CR.out.2)
        clear hr3 hk3
        go_wp2_with (with_reducible refine stop_store 72 (.tmp 4) (.tmp 50) rfl rfl ?_)
        replace E := Lib.hid (E.out.alloc 72 tz.arr)
        refine Stop.mk (wpList_storeB rfl _ _ _ rfl w3.heap.size _ rfl rfl _ E.out.b0 strTk rfl rfl (by simp [Value.oneCell']) ?_)
        intro w4 hb4 hk4
        replace E := Lib.hid (E.out.put0 hb4 hk4)
        obtain ⟨g4, hg4⟩ : ∃ g, g = w3.heap.size := ⟨_, rfl⟩
        rw [← hg4] at E ⊢
        clear hb4 hk4 hg4
        have BAE := Lib.hid (BA.out.kept E.out.kept BA.out.lt (fun e => by injection e with e; omega))
        go_wp2_with (with_reducible refine stop_loadG 72 (.tmp 52) rfl ?_)
        refine Stop.mk (wpList_loadAtG (by rfl) _ _ rfl w.heap.size 0 rfl _ (arr3_a BAE.out) strTk rfl ?_)
        clear BAE
        go_wp2_with (fail)
        refine (CS.out _ (Bw.out.trans (E.out.kept.oneB Bw.out.size (by omega)))).mono ?_
        rintro e w9 ⟨rfl, hb9⟩
        replace E := Lib.hid (E.out.below hb9)
        clear hb9
        go_wp2_with (fail)
        refine (CQ.out _ (HM.out _ (Bw.out.trans (E.out.kept.oneB Bw.out.size (by omega))))).mono ?_
        rintro e w9 ⟨rfl, hb9⟩
        replace E := Lib.hid (E.out.below hb9)
        clear hb9
        rename_i w5
        go_wp2_with (with_reducible refine stop_store 72 (.tmp 5) (.tmp 56) rfl rfl ?_)
        replace E := Lib.hid (E.out.alloc 72 tz.arr)
        refine Stop.mk (wpList_storeB rfl _ _ _ rfl w9.heap.size _ rfl rfl _ E.out.b0 strTk rfl rfl (by simp [Value.oneCell']) ?_)
        intro w6 hb6 hk6
        replace E := Lib.hid (E.out.put0 hb6 hk6)
        obtain ⟨g5, hg5⟩ : ∃ g, g = w9.heap.size := ⟨_, rfl⟩
        rw [← hg5] at E ⊢
        clear hb6 hk6 hg5
        go_wp2_with (with_reducible refine stop_loadG 72 (.tmp 4) rfl ?_)
        refine Stop.mk (wpList_loadAtG (by rfl) _ _ rfl g4 0 rfl _ E.out.b1.all strTk rfl ?_)
        have BAE := Lib.hid (BA.out.kept E.out.kept BA.out.lt (fun e => by injection e with e; omega))
        go_wp2_with (with_reducible refine stop_loadG 72 (.tmp 59) rfl ?_)
        refine Stop.mk (wpList_loadAtG (by rfl) _ _ rfl w.heap.size 0 rfl _ (arr3_a BAE.out) strTk rfl ?_)
        clear BAE
        go_wp2_with (with_reducible refine stop_bin .eql 72 (.tmp 58) (.tmp 60) 72 rfl ?_)
        refine Stop.mk (wpList_eqlS (by rfl) _ _ _ _ rfl a.arr a.arr rfl rfl gT true ((eq_tok 9998 a a _).trans (by simp)) ?_)
        go_wp2_with (fail)
        refine (c_octet_End (some g) ⟨[], 0⟩ _ E.out.rd).mono ?_
        rintro e w9 ⟨rfl, hb9⟩
        replace E := Lib.hid (E.out.below hb9)
        clear hb9
        rw [show rdEnd ⟨[], 0⟩ = 0 by decide]
        go_wp2_with (with_reducible refine stop_loadG 72 (.tmp 5) rfl ?_)
        refine Stop.mk (wpList_loadAtG (by rfl) _ _ rfl g5 0 rfl _ E.out.b0.all strTk rfl ?_)
        have BAE := Lib.hid (BA.out.kept E.out.kept BA.out.lt (fun e => by injection e with e; omega))
        go_wp2_with (with_reducible refine stop_loadG 72 (.tmp 69) rfl ?_)
        refine Stop.mk (wpList_loadAtG (by rfl) _ _ rfl w.heap.size 0 rfl _ (arr3_a BAE.out) strTk rfl ?_)
        clear BAE
        go_wp2_with (with_reducible refine stop_bin .eql 72 (.tmp 68) (.tmp 70) 72 rfl ?_)
        refine Stop.mk (wpList_eqlS (by rfl) _ _ _ _ rfl a.arr a.arr rfl rfl gT true ((eq_tok 9998 a a _).trans (by simp)) ?_)
        have BAE := Lib.hid (BA.out.kept E.out.kept BA.out.lt (fun e => by injection e with e; omega))
        go_wp2_with (with_reducible refine stop_loadG 72 (.tmp 77) rfl ?_)
        refine Stop.mk (wpList_loadAtG (by rfl) _ _ rfl w.heap.size 0 rfl _ (arr3_a BAE.out) strTk rfl ?_)
        clear BAE
        have BAE := Lib.hid (BA.out.kept E.out.kept BA.out.lt (fun e => by injection e with e; omega))
        go_wp2_with (with_reducible refine stop_loadG 72 (.tmp 79) rfl ?_)
        refine Stop.mk (wpList_loadAtG (by rfl) _ _ rfl w.heap.size 0 rfl _ (arr3_a BAE.out) strTk rfl ?_)
        clear BAE
        go_wp2_with (fail)
        refine (CG.out _).mono ?_
        rintro e w9 ⟨rfl, hb9⟩
        replace E := Lib.hid (E.out.below hb9)
        clear hb9
        go_wp2_with (fail)
        refine (c_law26_awake _ (HP.out _ (Bw.out.trans (E.out.kept.oneB Bw.out.size (by omega))))).mono ?_
        rintro e w9 ⟨rfl, hb9⟩
        replace E := Lib.hid (E.out.below hb9)
        clear hb9
        go_wp2_with (fail)
        go_ret
        exact RetV.bool rfl (Bw.out.trans (E.out.kept.oneB Bw.out.size (by omega)))
    · replace C2 := Lib.hid (by have := C2.out; rw [g2] at this; exact this)
      replace C3 := Lib.hid (by have := C3.out; rw [Tok.goes_trans g1 g2] at this; exact this)
      clear g1 g2
      go_enter Tryd.func9, Tryd.ntmps9
      go_wp2_with (with_reducible refine stop_loadG 72 (.tmp 7) rfl ?_)
      refine Stop.mk (wpList_loadAtG (by rfl) _ _ rfl w.heap.size 0 rfl _ (arr3_a BA.out) strTk rfl ?_)
      go_wp2_with (with_reducible refine stop_loadG 72 (.tmp 9) rfl ?_)
      refine Stop.mk (wpList_loadAtG (by rfl) _ _ rfl w.heap.size 4 rfl _ (arr3_b BA.out) strTk rfl ?_)
      go_wp2_with (fail)
      refine (C1.out _).mono ?_
      rintro e w1 ⟨rfl, hb1⟩
      replace Bw := Lib.hid (Bw.out.trans (hb1.mono Bw.out.size))
      replace BA := Lib.hid (BA.out.below hb1 BA.out.lt)
      clear hb1
      go_wp2_with (with_reducible refine stop_loadG 72 (.tmp 13) rfl ?_)
      refine Stop.mk (wpList_loadAtG (by rfl) _ _ rfl w.heap.size 4 rfl _ (arr3_b BA.out) strTk rfl ?_)
      go_wp2_with (with_reducible refine stop_loadG 72 (.tmp 15) rfl ?_)
      refine Stop.mk (wpList_loadAtG (by rfl) _ _ rfl w.heap.size 8 rfl _ (arr3_c BA.out) strTk rfl ?_)
      go_wp2_with (fail)
      refine (C2.out _).mono ?_
      rintro e w1 ⟨rfl, hb1⟩
      replace Bw := Lib.hid (Bw.out.trans (hb1.mono Bw.out.size))
      replace BA := Lib.hid (BA.out.below hb1 BA.out.lt)
      clear hb1
      go_wp2_with (with_reducible refine stop_loadG 72 (.tmp 20) rfl ?_)
      refine Stop.mk (wpList_loadAtG (by rfl) _ _ rfl w.heap.size 0 rfl _ (arr3_a BA.out) strTk rfl ?_)
      go_wp2_with (with_reducible refine stop_loadG 72 (.tmp 22) rfl ?_)
      refine Stop.mk (wpList_loadAtG (by rfl) _ _ rfl w.heap.size 8 rfl _ (arr3_c BA.out) strTk rfl ?_)
      go_wp2_with (fail)
      refine (C3.out _).mono ?_
      rintro e w1 ⟨rfl, hb1⟩
      replace Bw := Lib.hid (Bw.out.trans (hb1.mono Bw.out.size))
      replace BA := Lib.hid (BA.out.below hb1 BA.out.lt)
      clear hb1
      cases hok : a.ok
      · replace CD := Lib.hid (by have := CD.out; rw [hok] at this; exact this)
        replace CS := Lib.hid (by have := CS.out; rw [tokT_bad hok] at this; exact this)
        replace CP := Lib.hid (by have := CP.out; rw [tokB_bad hok] at this; exact this)
        clear hok
        go_wp2_with (with_reducible refine stop_loadG 72 (.tmp 27) rfl ?_)
        refine Stop.mk (wpList_loadAtG (by rfl) _ _ rfl w.heap.size 0 rfl _ (arr3_a BA.out) strTk rfl ?_)
        go_wp2_with (fail)
        refine (CD.out _).mono ?_
        rintro e w1 ⟨rfl, hb1⟩
        replace Bw := Lib.hid (Bw.out.trans (hb1.mono Bw.out.size))
        replace BA := Lib.hid (BA.out.below hb1 BA.out.lt)
        clear hb1
        go_wp2_with (with_reducible refine stop_loadG 72 (.tmp 31) rfl ?_)
        refine Stop.mk (wpList_loadAtG (by rfl) _ _ rfl w.heap.size 0 rfl _ (arr3_a BA.out) strTk rfl ?_)
        go_wp2_with (fail)
        refine (CS.out _ Bw.out).mono ?_
        rintro e w1 ⟨rfl, hb1⟩
        replace Bw := Lib.hid (Bw.out.trans (hb1.mono Bw.out.size))
        replace BA := Lib.hid (BA.out.below hb1 BA.out.lt)
        clear hb1
        go_wp2_with (with_reducible refine stop_loadG 72 (.tmp 36) rfl ?_)
        refine Stop.mk (wpList_loadAtG (by rfl) _ _ rfl w.heap.size 0 rfl _ (arr3_a BA.out) strTk rfl ?_)
        go_wp2_with (fail)
        refine (CP.out _).mono ?_
        rintro e w1 ⟨v1, rfl, own1, hb1⟩
        obtain ⟨A2, c2, rfl, in2⟩ := In.of_own bc_len own1 (by simp)
        replace Bw := Lib.hid (Bw.out.trans (hb1.mono Bw.out.size))
        have hC2 := in2.2.1
        clear own1 in2 hb1
        go_wp2_with (fail)
        refine (c_law26_awake _ (HP.out _ Bw.out)).mono ?_
        rintro e w9 ⟨rfl, hb9⟩
        go_wp2_with (fail)
        go_ret
        exact RetV.bool rfl (Bw.out.trans (hb9.mono Bw.out.size))
      · replace CD := Lib.hid (by have := CD.out; rw [hok] at this; exact this)
        have CG := Lib.hid (by have := c_token_Goes a a; rw [Tok.goes_self hok] at this; exact this)
        have CR := Lib.hid (show rdTok ⟨tokB a, 0⟩ = a ∧ rdTok' ⟨tokB a, 0⟩ = ⟨[], 0⟩ by have := rdTok_put hok []; rw [List.append_nil] at this; exact this)
        have CQ := Lib.hid (fun w' (hm : MaxV w') => show Calls Tryd.prog 31 #[.string (str (tokT a))] w' (RetV w' (.tuple #[.agg a.arr, .bool true])) by
          have h := c_token_Parse (tokT a) (by have := tokT_len a; omega) w' hm
          rw [(tkV_some (tkParse_text hok)).1, (tkV_some (tkParse_text hok)).2] at h
          exact h)
        have hzl : (tokB a).length ≤ 28 := by
          rw [tokB_ok hok]
          have := (num_len a.dev).2; have := (num_len a.epoch).2; have := (num_len a.seq).2; have := (num_len a.cursor).2
          simp only [List.length_append]; omega
        obtain ⟨z, hz⟩ : ∃ z, tokB a = z := ⟨_, rfl⟩
        rw [hz] at CP CR hzl
        rw [List.nil_append] at CP
        obtain ⟨t, ht⟩ : ∃ t, tokT a = t := ⟨_, rfl⟩
        rw [ht] at CS CQ
        clear hok hz ht
        go_wp2_with (with_reducible refine stop_loadG 72 (.tmp 27) rfl ?_)
        refine Stop.mk (wpList_loadAtG (by rfl) _ _ rfl w.heap.size 0 rfl _ (arr3_a BA.out) strTk rfl ?_)
        go_wp2_with (fail)
        refine (CD.out _).mono ?_
        rintro e w1 ⟨rfl, hb1⟩
        replace Bw := Lib.hid (Bw.out.trans (hb1.mono Bw.out.size))
        replace BA := Lib.hid (BA.out.below hb1 BA.out.lt)
        clear hb1
        go_wp2_with (with_reducible refine stop_loadG 72 (.tmp 45) rfl ?_)
        refine Stop.mk (wpList_loadAtG (by rfl) _ _ rfl w.heap.size 0 rfl _ (arr3_a BA.out) strTk rfl ?_)
        go_wp2_with (fail)
        refine (CP.out _).mono ?_
        rintro e w1 ⟨v1, rfl, own1, hb1⟩
        obtain ⟨A2, c2, rfl, in2⟩ := In.of_own bc_len own1 (by omega)
        replace Bw := Lib.hid (Bw.out.trans (hb1.mono Bw.out.size))
        replace BA := Lib.hid (BA.out.below hb1 BA.out.lt)
        have HI := Lib.hid in2
        clear own1 in2 hb1
        go_wp2_with (fail)
        refine (c_octet_New z A2 c2 _ HI.out).mono ?_
        rintro e w2 ⟨g, rfl, hg, hr1, hb2⟩
        have hgg := BA.out.lt
        replace Bw := Lib.hid (Bw.out.trans (hb2.mono Bw.out.size))
        replace BA := Lib.hid (BA.out.below hb2 BA.out.lt)
        have E := Lib.hid (EnvP.start hr1)
        clear hr1 hb2 HI
        go_wp2_with (fail)
        refine (c_token_Read (some g) ⟨z, 0⟩ _ E.out.rd).mono ?_
        rintro e w3 ⟨rfl, hr3, hk3⟩
        rw [CR.out.1]
        replace E := Lib.hid ((E.out.call hr3 hk3).state CR.out.2)
        clear hr3 hk3
        go_wp2_with (with_reducible refine stop_store 72 (.tmp 4) (.tmp 50) rfl rfl ?_)
        replace E := Lib.hid (E.out.alloc 72 tz.arr)
        refine Stop.mk (wpList_storeB rfl _ _ _ rfl w3.heap.size _ rfl rfl _ E.out.b0 strTk rfl rfl (by simp [Value.oneCell']) ?_)
        intro w4 hb4 hk4
        replace E := Lib.hid (E.out.put0 hb4 hk4)
        obtain ⟨g4, hg4⟩ : ∃ g, g = w3.heap.size := ⟨_, rfl⟩
        rw [← hg4] at E ⊢
        clear hb4 hk4 hg4
        have BAE := Lib.hid (BA.out.kept E.out.kept BA.out.lt (fun e => by injection e with e; omega))
        go_wp2_with (with_reducible refine stop_loadG 72 (.tmp 52) rfl ?_)
        refine Stop.mk (wpList_loadAtG (by rfl) _ _ rfl w.heap.size 0 rfl _ (arr3_a BAE.out) strTk rfl ?_)
        clear BAE
        go_wp2_with (fail)
        refine (CS.out _ (Bw.out.trans (E.out.kept.oneB Bw.out.size (by omega)))).mono ?_
        rintro e w9 ⟨rfl, hb9⟩
        replace E := Lib.hid (E.out.below hb9)
        clear hb9
        go_wp2_with (fail)
        refine (CQ.out _ (HM.out _ (Bw.out.trans (E.out.kept.oneB Bw.out.size (by omega))))).mono ?_
        rintro e w9 ⟨rfl, hb9⟩
        replace E := Lib.hid (E.out.below hb9)
        clear hb9
        rename_i w5
        go_wp2_with (with_reducible refine stop_store 72 (.tmp 5) (.tmp 56) rfl rfl ?_)
        replace E := Lib.hid (E.out.alloc 72 tz.arr)
        refine Stop.mk (wpList_storeB rfl _ _ _ rfl w9.heap.size _ rfl rfl _ E.out.b0 strTk rfl rfl (by simp [Value.oneCell']) ?_)
        intro w6 hb6 hk6
        replace E := Lib.hid (E.out.put0 hb6 hk6)
        obtain ⟨g5, hg5⟩ : ∃ g, g = w9.heap.size := ⟨_, rfl⟩
        rw [← hg5] at E ⊢
        clear hb6 hk6 hg5
        go_wp2_with (with_reducible refine stop_loadG 72 (.tmp 4) rfl ?_)
        refine Stop.mk (wpList_loadAtG (by rfl) _ _ rfl g4 0 rfl _ E.out.b1.all strTk rfl ?_)
        have BAE := Lib.hid (BA.out.kept E.out.kept BA.out.lt (fun e => by injection e with e; omega))
        go_wp2_with (with_reducible refine stop_loadG 72 (.tmp 59) rfl ?_)
        refine Stop.mk (wpList_loadAtG (by rfl) _ _ rfl w.heap.size 0 rfl _ (arr3_a BAE.out) strTk rfl ?_)
        clear BAE
        go_wp2_with (with_reducible refine stop_bin .eql 72 (.tmp 58) (.tmp 60) 72 rfl ?_)
        refine Stop.mk (wpList_eqlS (by rfl) _ _ _ _ rfl a.arr a.arr rfl rfl gT true ((eq_tok 9998 a a _).trans (by simp)) ?_)
        go_wp2_with (fail)
        refine (c_octet_End (some g) ⟨[], 0⟩ _ E.out.rd).mono ?_
        rintro e w9 ⟨rfl, hb9⟩
        replace E := Lib.hid (E.out.below hb9)
        clear hb9
        rw [show rdEnd ⟨[], 0⟩ = 0 by decide]
        go_wp2_with (with_reducible refine stop_loadG 72 (.tmp 5) rfl ?_)
        refine Stop.mk (wpList_loadAtG (by rfl) _ _ rfl g5 0 rfl _ E.out.b0.all strTk rfl ?_)
        have BAE := Lib.hid (BA.out.kept E.out.kept BA.out.lt (fun e => by injection e with e; omega))
        go_wp2_with (with_reducible refine stop_loadG 72 (.tmp 69) rfl ?_)
        refine Stop.mk (wpList_loadAtG (by rfl) _ _ rfl w.heap.size 0 rfl _ (arr3_a BAE.out) strTk rfl ?_)
        clear BAE
        go_wp2_with (with_reducible refine stop_bin .eql 72 (.tmp 68) (.tmp 70) 72 rfl ?_)
        refine Stop.mk (wpList_eqlS (by rfl) _ _ _ _ rfl a.arr a.arr rfl rfl gT true ((eq_tok 9998 a a _).trans (by simp)) ?_)
        have BAE := Lib.hid (BA.out.kept E.out.kept BA.out.lt (fun e => by injection e with e; omega))
        go_wp2_with (with_reducible refine stop_loadG 72 (.tmp 77) rfl ?_)
        refine Stop.mk (wpList_loadAtG (by rfl) _ _ rfl w.heap.size 0 rfl _ (arr3_a BAE.out) strTk rfl ?_)
        clear BAE
        have BAE := Lib.hid (BA.out.kept E.out.kept BA.out.lt (fun e => by injection e with e; omega))
        go_wp2_with (with_reducible refine stop_loadG 72 (.tmp 79) rfl ?_)
        refine Stop.mk (wpList_loadAtG (by rfl) _ _ rfl w.heap.size 0 rfl _ (arr3_a BAE.out) strTk rfl ?_)
        clear BAE
        go_wp2_with (fail)
        refine (CG.out _).mono ?_
        rintro e w9 ⟨rfl, hb9⟩
        replace E := Lib.hid (E.out.below hb9)
        clear hb9
        go_wp2_with (fail)
        refine (c_law26_awake _ (HP.out _ (Bw.out.trans (E.out.kept.oneB Bw.out.size (by omega))))).mono ?_
        rintro e w9 ⟨rfl, hb9⟩
        replace E := Lib.hid (E.out.below hb9)
        clear hb9
        go_wp2_with (fail)
        go_ret
        exact RetV.bool rfl (Bw.out.trans (E.out.kept.oneB Bw.out.size (by omega)))
end Go.Proofs.YtfgjhgecmelccaaDoor
