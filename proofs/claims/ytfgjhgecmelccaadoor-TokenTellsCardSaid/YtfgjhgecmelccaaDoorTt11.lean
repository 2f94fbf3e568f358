/-
  Lemmas (walks and plain laws), in one text.
-/
import Derived.Test.YtfgjhgecmelccaaDoorTt10
import Derived.Test.YtfgjhgecmelccaaDoorRows
import Derived.WalkKit
import Derived.WalkSpells
import Derived.WalkLawsBesides
import Derived.Lib.Hide
import Derived.Deep.QuietTactic
import Derived.BigQuiet
import Derived.Maps.AppendAt
import Derived.WalkSmall
import Derived.ProofKit
import Derived.OpenShut
import Derived.JoinedCond
import Derived.Deep.Slices
import Derived.Deep.Fields
import Derived.Carry
import Derived.HandedShaped
import Derived.Shelf.Strings.Builder1
import Derived.Shelf.Strings.Builder2
import Derived.Shelf.Strings.OnBuilder
import Derived.Shelf.Small.Wraps
import Derived.Shelf.Utf8.RuneCount
import Derived.Shelf.Strconv.Itoa0
import Derived.Shelf.Strconv.Itoa1
import Derived.Shelf.LaysM
import Derived.Shelf.Strconv.Itoa2
import Derived.Shelf.Strconv.Itoa3
import Derived.Shelf.Strings.Search1
import Derived.Shelf.Strings.Search2
import Derived.Shelf.Strings.Search3
import Derived.Shelf.Strings.Count
import Derived.Shelf.Strings.Shaped
import Derived.Shelf.Strings.Split
import Derived.Shelf.Strings.SplitShaped
import Derived.Shelf.Unicode.Decode
import Derived.Shelf.Strings.RuneCount
import Derived.Shelf.Strings.Explode
import Derived.Shelf.Unicode.DecodeSlow
import Derived.Test.YtfgjhgecmelccaaDoorProg
import Derived.Deep.AppendSrc
import Derived.Lib.AppendStr
import Derived.Laws.BytesArg
import Derived.Lib.AppendIntMem
import Derived.Lib.ItoaLen
import Derived.Lib.TrailingZeros
import Derived.Lib.SplitLaws
import Derived.Lib.ItoaNum
import Derived.Shelf.Strings.PiecesUse
import Derived.Shelf.Spec.TrailingZeros
import Derived.RangeFuncNested
import Derived.RangeFuncBound
import Derived.RangeFuncCalls
import Derived.RangeFuncLeaves
import Derived.Shelf.Abstract
import Derived.Shelf.RegionOpen
import Derived.OwnWalkIn
import Derived.TacticsInMore
import Derived.LoopNIn
import Derived.LoopIn
import Derived.Test.YtfgjhgecmelccaaDoorTie
import Derived.Lib.LaidTab
import Derived.LaidMore
import Derived.Lay
import Derived.Stop.LaidErr
import Derived.SevenTiedAt
import Derived.Test.YtfgjhgecmelccaaDoorCards
import Derived.Deep.CutBlock
import Derived.Deep.DeepCutAuto
import Derived.Laws.Tables
import Derived.Laws.Rows
import Derived.Laws.CopyOwn
import Derived.Outline
import Derived.IntWalk
import Derived.Lib.EndianBits
import Derived.StillTail
import Derived.Laws.IdiomStrings
import Derived.ChangeKeysEq
import Derived.Laws.StructEq
namespace Go.Proofs.YtfgjhgecmelccaaDoor
open Go.RowKit

theorem tk4_no {a b c d : List UInt8} (h : intR a 5 = none ∨ intR b 1099511627776 = none ∨ intR c 1099511627776 = none ∨ curR d = none) : tk4 a b c d = none := by
  unfold tk4
  rcases h with h | h | h | h
  · rw [h]
  · rw [h]; cases intR a 5 <;> rfl
  · rw [h]; cases intR a 5 <;> cases intR b 1099511627776 <;> rfl
  · rw [h]; cases intR a 5 <;> cases intR b 1099511627776 <;> cases intR c 1099511627776 <;> rfl
theorem tk4_yes {a b c d : List UInt8} {x y z u : Nat} (h1 : intR a 5 = some x) (h2 : intR b 1099511627776 = some y) (h3 : intR c 1099511627776 = some z) (h4 : curR d = some u) :
    tk4 a b c d = if (⟨x, y, z, u⟩ : Tok).ok then some ⟨x, y, z, u⟩ else none := by
  have e : (⟨x, y, z, u⟩ : Tok).ok = decide (0 < y) := by
    have i1 := (tens_intR h1).2.2
    have i2 := (tens_intR h2).2.2
    have i3 := (tens_intR h3).2.2
    have i4 := (curR_some h4).2
    unfold Tok.ok
    rw [Bool.eq_iff_iff]
    simp only [decide_eq_true_eq]
    omega
  unfold tk4
  rw [h1, h2, h3, h4, e]
  simp
theorem curR_int {d : List UInt8} (h : d ≠ [97, 108, 108]) : curR d = match intR d 1073741824 with | none => none | some n => if n = 1073741824 then none else some n := by unfold curR; rw [if_neg h] <;> rfl
theorem curR_all : curR [97, 108, 108] = some 1073741824 := by unfold curR; rw [if_pos rfl]
abbrev a4 (x0 x1 x2 x3 : Nat) : Array Value := #[.int .i64 x0, .int .i64 x1, .int .i64 x2, .int .i64 x3]
def ReadAt (a b c d : List UInt8) (k x0 x1 x2 x3 : Nat) : Prop := (0 < k → intR a 5 = some x0) ∧ (1 < k → intR b 1099511627776 = some x1) ∧ (2 < k → intR c 1099511627776 = some x2) ∧ (3 < k → curR d = some x3)
section
variable {a b c d : List UInt8} {x0 x1 x2 x3 n : Nat}
theorem ReadAt.n0 (h : intR a 5 = some n) (_ : ReadAt a b c d 0 x0 x1 x2 x3) : ReadAt a b c d (0 + 1) n x1 x2 x3 := ⟨fun _ => h, fun h => absurd h (by omega), fun h => absurd h (by omega), fun h => absurd h (by omega)⟩
theorem ReadAt.n1 (h : intR b 1099511627776 = some n) (p : ReadAt a b c d 1 x0 x1 x2 x3) : ReadAt a b c d (1 + 1) x0 n x2 x3 := ⟨fun _ => p.1 (by omega), fun _ => h, fun h => absurd h (by omega), fun h => absurd h (by omega)⟩
theorem ReadAt.n2 (h : intR c 1099511627776 = some n) (p : ReadAt a b c d 2 x0 x1 x2 x3) : ReadAt a b c d (2 + 1) x0 x1 n x3 := ⟨fun _ => p.1 (by omega), fun _ => p.2.1 (by omega), fun _ => h, fun h => absurd h (by omega)⟩
theorem ReadAt.n3 (h : curR d = some n) (p : ReadAt a b c d 3 x0 x1 x2 x3) : ReadAt a b c d (3 + 1) x0 x1 x2 n := ⟨fun _ => p.1 (by omega), fun _ => p.2.1 (by omega), fun _ => p.2.2.1 (by omega), fun _ => h⟩
end
set_option maxHeartbeats 8000000 in
set_option maxRecDepth 4000 in
theorem token_Parse_four (s a b c d : List UInt8) (hs : s.length ≤ 1000000) (hl : cuts 46 s = [a, b, c, d]) (w : World) (hM : MaxV w) : Calls Tryd.prog 31 #[.string (str s)] w (RetV w (.tuple #[.agg (tkV s).arr, .bool (tkO s)])) := by
  have CS := Lib.hid (fun w' (hb : Below w.heap.size w w') => show Calls Tryd.prog 92 #[.string (str s), .string (str [46])] w' (RetIn 1 sc w' [a, b, c, d]) from hl ▸ c_Split s 46 w' (hM.below hb) (by omega))
  have HD := Lib.hid (show tkParse s = tk4 a b c d by unfold tkParse; rw [hl])
  have HP9 := Lib.hid (show ∀ p ∈ [a, b, c, d], p.length ≤ 1000000 from fun p hp => Nat.le_trans (cuts_part 46 s p (by rw [hl]; exact hp)) hs)
  have BL := Lib.hid (At.new w 72 tz.arr)
  clear hl hM
  go_enter Tryd.func31, Tryd.ntmps31
  go_wp2_with (fail)
  refine (CS.out _ BL.out.1).mono ?_
  rintro e w1 ⟨A9, c9, rfl, hin, hb1⟩
  have Bw := Lib.hid (BL.out.step hb1).1
  replace BL := Lib.hid (BL.out.step hb1).2
  have HI := Lib.hid hin
  have hC9 := hin.2.1
  have hL9 := hin.1
  have E := Lib.hid (EnvP.start (RdP.nilmk w1))
  clear hb1 hin
  simp only [List.length_cons, List.length_nil, Nat.reduceAdd] at hL9
  go_wp2_with (fail)
  replace E := Lib.hid (E.out.alloc 138 (a4 0 0 0 0))
  obtain ⟨gl, hgl⟩ : ∃ g, g = w1.heap.size := ⟨_, rfl⟩
  rw [← hgl] at E
  refine (c_token_most _).mono ?_
  rintro e w2 ⟨rfl, hb2⟩
  replace E := Lib.hid (E.out.below hb2)
  clear hb2
  go_wp2_with (with_reducible refine stop_store 138 (.tmp 6) (.tmp 17) rfl rfl ?_)
  replace E := Lib.hid (E.out.alloc 138 (a4 0 0 0 0))
  refine Stop.mk (wpList_storeB rfl _ _ _ rfl w2.heap.size _ rfl rfl _ E.out.b0 str4i rfl rfl (by simp [Value.oneCell']) ?_)
  intro w4 hb4 hk4
  replace E := Lib.hid (E.out.put0 hb4 hk4)
  clear hb4 hk4
  obtain ⟨gt, hgt⟩ : ∃ g, g = w2.heap.size := ⟨_, rfl⟩
  go_wp2_with (fail)
  rw [← hgt] at E ⊢
  rw [← hgl]
  clear hgl hgt
  go_loopw [7, 8, 9, 18] (fun _ _ _ i wr => ∃ (k x0 x1 x2 x3 : Nat), k ≤ 4 ∧ i = .int .i64 k ∧ Hid (ReadAt a b c d k x0 x1 x2 x3) ∧ Hid (EnvP none ⟨[], 1⟩ w1 wr [(gt, most4), (gl, a4 x0 x1 x2 x3)]))
    (fun _ _ _ i _ => 4 - (intOf i).toNat)
  case atStart => exact ⟨0, 0, 0, 0, 0, by omega, rfl, ⟨fun h => absurd h (by omega), fun h => absurd h (by omega), fun h => absurd h (by omega), fun h => absurd h (by omega)⟩, E.out⟩
  case round =>
    obtain ⟨k, x0, x1, x2, x3, hk, rfl, HF, E1⟩ := hrel
    clear E
    have hcs : k = 0 ∨ k = 1 ∨ k = 2 ∨ k = 3 ∨ k = 4 := by omega
    clear hk
    obtain ⟨b9, off9, hA9, hbb9, hrow9⟩ := HI.out.at (i := 0) (by simp)
    subst hA9
    rcases hcs with rfl | rfl | rfl | rfl | rfl
    · have ek := (E1.out.bel.cell (p := ⟨b9, off9, none⟩) hbb9).trans (show w1.cell? ⟨b9, off9, none⟩ = some (.string (str a)) by have := hrow9 0 (by simp) 0 _ rfl; simpa using this)
      have hb9 : b9 < wr.heap.size := Nat.lt_of_lt_of_le hbb9 E1.out.bel.size
      have m0 := E1.out.b0.cell (show most4[0]? = _ from rfl)
      have hlt3 := E1.out.b0.lt
      have hlt4 := E1.out.b1.lt
      have CI := Lib.hid (fun w' => c_bits_Int a 5 w' (by have := HP9.out a (by simp); omega))
      cases hi : intR a 5 with
      | none =>
        replace CI := Lib.hid (by have := CI.out; rw [(intR_none hi).1, (intR_none hi).2] at this; exact this)
        have V := Lib.hid (tkV_none (HD.out.trans (tk4_no ((fun hi => .inl hi) hi))))
        clear hi HF
        go_wp2_with (fail)
        refine wp_region_grow (by kernel_rfl) (by kernel_rfl) ?_
        repeat (quiet_step ((first | (go_at_call 94; exact quiet_grow (CI.out _)))))
        refine wpQuiet_nil ?_
        intro W2 hb2
        have ek2 := (hb2.cell (p := ⟨b9, off9, none⟩) hb9).trans ek
        have E2 := Lib.hid (E1.out.below hb2)
        clear hb2 ek m0 hlt3 hlt4 E1
        go_wp2_with (with_reducible refine stop_store 72 (.tmp 2) (.tmp 53) rfl rfl ?_)
        refine Stop.mk (wpList_storeB rfl _ _ _ rfl w.heap.size _ rfl rfl _ (BL.out.below E2.out.bel BL.out.lt) strTk rfl rfl (by simp [Value.oneCell']) ?_)
        intro w11 hb11 hk11
        have hkk := (Bw.out.trans (E2.out.bel.mono Bw.out.size)).trans (hk11.oneB (Nat.le_trans Bw.out.size E2.out.bel.size) (Nat.le_refl _))
        clear hk11
        go_wp2_with (fail)
        refine bodyPost_ret (results_B2 rfl rfl rfl hb11 strTk rfl) rfl (RetV.of ?_ hkk)
        rw [V.out.1, V.out.2] <;> rfl
      | some n =>
        replace CI := Lib.hid (by have := CI.out; rw [(intR_some hi).1, (intR_some hi).2] at this; exact this)
        have HF2 := Lib.hid (ReadAt.n0 hi HF.out)
        clear hi HF
        go_wp2_with (fail)
        refine wp_region_grow (by kernel_rfl) (by kernel_rfl) ?_
        repeat (quiet_step ((first | (go_at_call 94; exact quiet_grow (CI.out _)))))
        refine wpQuiet_nil ?_
        intro W2 hb2
        have ek2 := (hb2.cell (p := ⟨b9, off9, none⟩) hb9).trans ek
        have E2 := Lib.hid (E1.out.below hb2)
        clear hb2 ek m0 hlt3 hlt4 E1
        have ff := fun i => E2.out.b1.frozen i
        have c0 := E2.out.b1.cell (i := 0) rfl
        have hl5 := E2.out.b1.lt
        go_wp2_with (fail)
        go_roundw
        case rel => exact ⟨0 + 1, n, x1, x2, x3, by omega, rfl, HF2.out, E2.out.store1 0 (.int .i64 n)⟩
        case measure => simp [intOf]
    · have ek := (E1.out.bel.cell (p := ⟨b9, off9 + 1, none⟩) hbb9).trans (show w1.cell? ⟨b9, off9 + 1, none⟩ = some (.string (str b)) by have := hrow9 1 (by simp) 0 _ rfl; simpa using this)
      have hb9 : b9 < wr.heap.size := Nat.lt_of_lt_of_le hbb9 E1.out.bel.size
      have m0 := E1.out.b0.cell (show most4[1]? = _ from rfl)
      have hlt3 := E1.out.b0.lt
      have hlt4 := E1.out.b1.lt
      have CI := Lib.hid (fun w' => c_bits_Int b 1099511627776 w' (by have := HP9.out b (by simp); omega))
      cases hi : intR b 1099511627776 with
      | none =>
        replace CI := Lib.hid (by have := CI.out; rw [(intR_none hi).1, (intR_none hi).2] at this; exact this)
        have V := Lib.hid (tkV_none (HD.out.trans (tk4_no ((fun hi => .inr (.inl hi)) hi))))
        clear hi HF
        go_wp2_with (fail)
        refine wp_region_grow (by kernel_rfl) (by kernel_rfl) ?_
        repeat (quiet_step ((first | (go_at_call 94; exact quiet_grow (CI.out _)))))
        refine wpQuiet_nil ?_
        intro W2 hb2
        have ek2 := (hb2.cell (p := ⟨b9, off9 + 1, none⟩) hb9).trans ek
        have E2 := Lib.hid (E1.out.below hb2)
        clear hb2 ek m0 hlt3 hlt4 E1
        go_wp2_with (with_reducible refine stop_store 72 (.tmp 2) (.tmp 53) rfl rfl ?_)
        refine Stop.mk (wpList_storeB rfl _ _ _ rfl w.heap.size _ rfl rfl _ (BL.out.below E2.out.bel BL.out.lt) strTk rfl rfl (by simp [Value.oneCell']) ?_)
        intro w11 hb11 hk11
        have hkk := (Bw.out.trans (E2.out.bel.mono Bw.out.size)).trans (hk11.oneB (Nat.le_trans Bw.out.size E2.out.bel.size) (Nat.le_refl _))
        clear hk11
        go_wp2_with (fail)
        refine bodyPost_ret (results_B2 rfl rfl rfl hb11 strTk rfl) rfl (RetV.of ?_ hkk)
        rw [V.out.1, V.out.2] <;> rfl
      | some n =>
        replace CI := Lib.hid (by have := CI.out; rw [(intR_some hi).1, (intR_some hi).2] at this; exact this)
        have HF2 := Lib.hid (ReadAt.n1 hi HF.out)
        clear hi HF
        go_wp2_with (fail)
        refine wp_region_grow (by kernel_rfl) (by kernel_rfl) ?_
        repeat (quiet_step ((first | (go_at_call 94; exact quiet_grow (CI.out _)))))
        refine wpQuiet_nil ?_
        intro W2 hb2
        have ek2 := (hb2.cell (p := ⟨b9, off9 + 1, none⟩) hb9).trans ek
        have E2 := Lib.hid (E1.out.below hb2)
        clear hb2 ek m0 hlt3 hlt4 E1
        have ff := fun i => E2.out.b1.frozen i
        have c0 := E2.out.b1.cell (i := 1) rfl
        have hl5 := E2.out.b1.lt
        go_wp2_with (fail)
        go_roundw
        case rel => exact ⟨1 + 1, x0, n, x2, x3, by omega, rfl, HF2.out, E2.out.store1 1 (.int .i64 n)⟩
        case measure => simp [intOf]
    · have ek := (E1.out.bel.cell (p := ⟨b9, off9 + 2, none⟩) hbb9).trans (show w1.cell? ⟨b9, off9 + 2, none⟩ = some (.string (str c)) by have := hrow9 2 (by simp) 0 _ rfl; simpa using this)
      have hb9 : b9 < wr.heap.size := Nat.lt_of_lt_of_le hbb9 E1.out.bel.size
      have m0 := E1.out.b0.cell (show most4[2]? = _ from rfl)
      have hlt3 := E1.out.b0.lt
      have hlt4 := E1.out.b1.lt
      have CI := Lib.hid (fun w' => c_bits_Int c 1099511627776 w' (by have := HP9.out c (by simp); omega))
      cases hi : intR c 1099511627776 with
      | none =>
        replace CI := Lib.hid (by have := CI.out; rw [(intR_none hi).1, (intR_none hi).2] at this; exact this)
        have V := Lib.hid (tkV_none (HD.out.trans (tk4_no ((fun hi => .inr (.inr (.inl hi))) hi))))
        clear hi HF
        go_wp2_with (fail)
        refine wp_region_grow (by kernel_rfl) (by kernel_rfl) ?_
        repeat (quiet_step ((first | (go_at_call 94; exact quiet_grow (CI.out _)))))
        refine wpQuiet_nil ?_
        intro W2 hb2
        have ek2 := (hb2.cell (p := ⟨b9, off9 + 2, none⟩) hb9).trans ek
        have E2 := Lib.hid (E1.out.below hb2)
        clear hb2 ek m0 hlt3 hlt4 E1
        go_wp2_with (with_reducible refine stop_store 72 (.tmp 2) (.tmp 53) rfl rfl ?_)
        refine Stop.mk (wpList_storeB rfl _ _ _ rfl w.heap.size _ rfl rfl _ (BL.out.below E2.out.bel BL.out.lt) strTk rfl rfl (by simp [Value.oneCell']) ?_)
        intro w11 hb11 hk11
        have hkk := (Bw.out.trans (E2.out.bel.mono Bw.out.size)).trans (hk11.oneB (Nat.le_trans Bw.out.size E2.out.bel.size) (Nat.le_refl _))
        clear hk11
        go_wp2_with (fail)
        refine bodyPost_ret (results_B2 rfl rfl rfl hb11 strTk rfl) rfl (RetV.of ?_ hkk)
        rw [V.out.1, V.out.2] <;> rfl
      | some n =>
        replace CI := Lib.hid (by have := CI.out; rw [(intR_some hi).1, (intR_some hi).2] at this; exact this)
        have HF2 := Lib.hid (ReadAt.n2 hi HF.out)
        clear hi HF
        go_wp2_with (fail)
        refine wp_region_grow (by kernel_rfl) (by kernel_rfl) ?_
        repeat (quiet_step ((first | (go_at_call 94; exact quiet_grow (CI.out _)))))
        refine wpQuiet_nil ?_
        intro W2 hb2
        have ek2 := (hb2.cell (p := ⟨b9, off9 + 2, none⟩) hb9).trans ek
        have E2 := Lib.hid (E1.out.below hb2)
        clear hb2 ek m0 hlt3 hlt4 E1
        have ff := fun i => E2.out.b1.frozen i
        have c0 := E2.out.b1.cell (i := 2) rfl
        have hl5 := E2.out.b1.lt
        go_wp2_with (fail)
        go_roundw
        case rel => exact ⟨2 + 1, x0, x1, n, x3, by omega, rfl, HF2.out, E2.out.store1 2 (.int .i64 n)⟩
        case measure => simp [intOf]
    · have ek := (E1.out.bel.cell (p := ⟨b9, off9 + 3, none⟩) hbb9).trans (show w1.cell? ⟨b9, off9 + 3, none⟩ = some (.string (str d)) by have := hrow9 3 (by simp) 0 _ rfl; simpa using this)
      have hb9 : b9 < wr.heap.size := Nat.lt_of_lt_of_le hbb9 E1.out.bel.size
      have m0 := E1.out.b0.cell (show most4[3]? = _ from rfl)
      have hlt3 := E1.out.b0.lt
      have hlt4 := E1.out.b1.lt
      have CI := Lib.hid (fun w' => c_bits_Int d 1073741824 w' (by have := HP9.out d (by simp); omega))
      by_cases hd : d = [97, 108, 108]
      · have kd : (d == [97, 108, 108]) = true := by simpa using hd
        have HF2 := Lib.hid (ReadAt.n3 (by rw [hd]; exact curR_all) HF.out)
        obtain ⟨vi, hvi⟩ : ∃ v, intV d 1073741824 = v := ⟨_, rfl⟩
        obtain ⟨vo, hvo⟩ : ∃ v, intOk d 1073741824 = v := ⟨_, rfl⟩
        replace CI := Lib.hid (by have := CI.out; rw [hvi, hvo] at this; exact this)
        clear hd hvi hvo HF
        go_wp2_with (fail)
        refine wp_region_grow (by kernel_rfl) (by kernel_rfl) ?_
        repeat (quiet_step ((first | (go_at_call 94; exact quiet_grow (CI.out _)))))
        refine wpQuiet_nil ?_
        intro W2 hb2
        have ek2 := (hb2.cell (p := ⟨b9, off9 + 3, none⟩) hb9).trans ek
        have E2 := Lib.hid (E1.out.below hb2)
        clear hb2 ek m0 hlt3 hlt4 E1
        have ff := fun i => E2.out.b1.frozen i
        have c0 := E2.out.b1.cell (i := 3) rfl
        have hl5 := E2.out.b1.lt
        go_wp2_with (fail)
        go_roundw
        case rel => exact ⟨4, x0, x1, x2, 1073741824, by omega, rfl, HF2.out, E2.out.store1 3 (.int .i64 1073741824)⟩
        case measure => simp [intOf]
      · have kd : (d == [97, 108, 108]) = false := by simpa using hd
        have HC := Lib.hid (curR_int hd)
        clear hd
        cases hi : intR d 1073741824 with
        | none =>
          replace CI := Lib.hid (by have := CI.out; rw [(intR_none hi).1, (intR_none hi).2] at this; exact this)
          have V := Lib.hid (tkV_none (HD.out.trans (tk4_no (.inr (.inr (.inr (by rw [HC.out, hi])))))))
          clear hi HF HC
          go_wp2_with (fail)
          refine wp_region_grow (by kernel_rfl) (by kernel_rfl) ?_
          repeat (quiet_step ((first | (go_at_call 94; exact quiet_grow (CI.out _)))))
          refine wpQuiet_nil ?_
          intro W2 hb2
          have ek2 := (hb2.cell (p := ⟨b9, off9 + 3, none⟩) hb9).trans ek
          have E2 := Lib.hid (E1.out.below hb2)
          clear hb2 ek m0 hlt3 hlt4 E1
          go_wp2_with (with_reducible refine stop_store 72 (.tmp 2) (.tmp 53) rfl rfl ?_)
          refine Stop.mk (wpList_storeB rfl _ _ _ rfl w.heap.size _ rfl rfl _ (BL.out.below E2.out.bel BL.out.lt) strTk rfl rfl (by simp [Value.oneCell']) ?_)
          intro w11 hb11 hk11
          have hkk := (Bw.out.trans (E2.out.bel.mono Bw.out.size)).trans (hk11.oneB (Nat.le_trans Bw.out.size E2.out.bel.size) (Nat.le_refl _))
          clear hk11
          go_wp2_with (fail)
          refine bodyPost_ret (results_B2 rfl rfl rfl hb11 strTk rfl) rfl (RetV.of ?_ hkk)
          rw [V.out.1, V.out.2] <;> rfl
        | some n =>
          replace CI := Lib.hid (by have := CI.out; rw [(intR_some hi).1, (intR_some hi).2] at this; exact this)
          by_cases hn : n = 1073741824
          · have V := Lib.hid (tkV_none (HD.out.trans (tk4_no (.inr (.inr (.inr (by rw [HC.out, hi]; exact if_pos hn)))))))
            subst hn
            clear hi HF HC
            go_wp2_with (fail)
            refine wp_region_grow (by kernel_rfl) (by kernel_rfl) ?_
            repeat (quiet_step ((first | (go_at_call 94; exact quiet_grow (CI.out _)))))
            refine wpQuiet_nil ?_
            intro W2 hb2
            have ek2 := (hb2.cell (p := ⟨b9, off9 + 3, none⟩) hb9).trans ek
            have E2 := Lib.hid (E1.out.below hb2)
            clear hb2 ek m0 hlt3 hlt4 E1
            go_wp2_with (with_reducible refine stop_store 72 (.tmp 2) (.tmp 53) rfl rfl ?_)
            refine Stop.mk (wpList_storeB rfl _ _ _ rfl w.heap.size _ rfl rfl _ (BL.out.below E2.out.bel BL.out.lt) strTk rfl rfl (by simp [Value.oneCell']) ?_)
            intro w11 hb11 hk11
            have hkk := (Bw.out.trans (E2.out.bel.mono Bw.out.size)).trans (hk11.oneB (Nat.le_trans Bw.out.size E2.out.bel.size) (Nat.le_refl _))
            clear hk11
            go_wp2_with (fail)
            refine bodyPost_ret (results_B2 rfl rfl rfl hb11 strTk rfl) rfl (RetV.of ?_ hkk)
            rw [V.out.1, V.out.2] <;> rfl
          · have kn : ((n : Int) == 1073741824) = false := by rw [beq_eq_false_iff_ne]; omega
            have HF2 := Lib.hid (ReadAt.n3 (n := n) (by rw [HC.out, hi]; exact if_neg hn) HF.out)
            clear hi HF HC hn
            go_wp2_with (fail)
            refine wp_region_grow (by kernel_rfl) (by kernel_rfl) ?_
            repeat (quiet_step ((first | (go_at_call 94; exact quiet_grow (CI.out _)))))
            refine wpQuiet_nil ?_
            intro W2 hb2
            have ek2 := (hb2.cell (p := ⟨b9, off9 + 3, none⟩) hb9).trans ek
            have E2 := Lib.hid (E1.out.below hb2)
            clear hb2 ek m0 hlt3 hlt4 E1
            have ff := fun i => E2.out.b1.frozen i
            have c0 := E2.out.b1.cell (i := 3) rfl
            have hl5 := E2.out.b1.lt
            go_wp2_with (fail)
            go_roundw
            case rel => exact ⟨4, x0, x1, x2, n, by omega, rfl, HF2.out, E2.out.store1 3 (.int .i64 n)⟩
            case measure => simp [intOf]
    · have HK := Lib.hid (HD.out.trans (tk4_yes (HF.out.1 (by omega)) (HF.out.2.1 (by omega)) (HF.out.2.2.1 (by omega)) (HF.out.2.2.2 (by omega))))
      have CK := Lib.hid (c_token_Check ⟨x0, x1, x2, x3⟩)
      clear HF hrow9
      cases hok : (⟨x0, x1, x2, x3⟩ : Tok).ok
      · replace CK := Lib.hid (by have := CK.out; rw [hok] at this; exact this)
        have V := Lib.hid (tkV_none (HK.out.trans (if_neg (by rw [hok]; simp))))
        clear hok HK
        go_wp2_with (with_reducible refine stop_load 138 (.tmp 5) rfl rfl ?_)
        refine Stop.mk (wpList_loadB rfl _ _ rfl gl rfl _ E1.out.b1 str4i rfl ?_)
        go_wp2_with (fail)
        refine (c_token_of ⟨x0, x1, x2, x3⟩ _).mono ?_
        rintro e w5 ⟨rfl, hb5⟩
        replace E1 := Lib.hid (E1.out.below hb5)
        clear hb5
        go_wp2_with (with_reducible refine stop_store 72 (.tmp 10) (.tmp 59) rfl rfl ?_)
        replace E1 := Lib.hid (E1.out.alloc 72 tz.arr)
        refine Stop.mk (wpList_storeB rfl _ _ _ rfl w5.heap.size _ rfl rfl _ E1.out.b0 strTk rfl rfl (by simp [Value.oneCell']) ?_)
        intro w6 hb6 hk6
        replace E1 := Lib.hid (E1.out.put0 hb6 hk6)
        obtain ⟨g5, hg5⟩ : ∃ g, g = w5.heap.size := ⟨_, rfl⟩
        rw [← hg5] at E1 ⊢
        clear hb6 hk6 hg5
        go_wp2_with (with_reducible refine stop_load 72 (.tmp 10) rfl rfl ?_)
        refine Stop.mk (wpList_loadB rfl _ _ rfl g5 rfl _ E1.out.b0 strTk rfl ?_)
        go_wp2_with (fail)
        refine (CK.out _).mono ?_
        rintro e w7 ⟨rfl, hb7⟩
        have E2 := Lib.hid (E1.out.below hb7)
        clear hb7 E1
        go_wp2_with (with_reducible refine stop_store 72 (.tmp 2) (.tmp 63) rfl rfl ?_)
        refine Stop.mk (wpList_storeB rfl _ _ _ rfl w.heap.size _ rfl rfl _ (BL.out.below E2.out.bel BL.out.lt) strTk rfl rfl (by simp [Value.oneCell']) ?_)
        intro w11 hb11 hk11
        have hkk := (Bw.out.trans (E2.out.bel.mono Bw.out.size)).trans (hk11.oneB (Nat.le_trans Bw.out.size E2.out.bel.size) (Nat.le_refl _))
        clear hk11
        go_wp2_with (fail)
        refine bodyPost_ret (results_B2 rfl rfl rfl hb11 strTk rfl) rfl (RetV.of ?_ hkk)
        rw [V.out.1, V.out.2] <;> rfl
      · replace CK := Lib.hid (by have := CK.out; rw [hok] at this; exact this)
        have V := Lib.hid (tkV_some (HK.out.trans (if_pos hok)))
        clear hok HK
        go_wp2_with (with_reducible refine stop_load 138 (.tmp 5) rfl rfl ?_)
        refine Stop.mk (wpList_loadB rfl _ _ rfl gl rfl _ E1.out.b1 str4i rfl ?_)
        go_wp2_with (fail)
        refine (c_token_of ⟨x0, x1, x2, x3⟩ _).mono ?_
        rintro e w5 ⟨rfl, hb5⟩
        replace E1 := Lib.hid (E1.out.below hb5)
        clear hb5
        go_wp2_with (with_reducible refine stop_store 72 (.tmp 10) (.tmp 59) rfl rfl ?_)
        replace E1 := Lib.hid (E1.out.alloc 72 tz.arr)
        refine Stop.mk (wpList_storeB rfl _ _ _ rfl w5.heap.size _ rfl rfl _ E1.out.b0 strTk rfl rfl (by simp [Value.oneCell']) ?_)
        intro w6 hb6 hk6
        replace E1 := Lib.hid (E1.out.put0 hb6 hk6)
        obtain ⟨g5, hg5⟩ : ∃ g, g = w5.heap.size := ⟨_, rfl⟩
        rw [← hg5] at E1 ⊢
        clear hb6 hk6 hg5
        go_wp2_with (with_reducible refine stop_load 72 (.tmp 10) rfl rfl ?_)
        refine Stop.mk (wpList_loadB rfl _ _ rfl g5 rfl _ E1.out.b0 strTk rfl ?_)
        go_wp2_with (fail)
        refine (CK.out _).mono ?_
        rintro e w7 ⟨rfl, hb7⟩
        have E2 := Lib.hid (E1.out.below hb7)
        clear hb7 E1
        go_wp2_with (with_reducible refine stop_load 72 (.tmp 10) rfl rfl ?_)
        refine Stop.mk (wpList_loadB rfl _ _ rfl g5 rfl _ E2.out.b0 strTk rfl ?_)
        go_wp2_with (with_reducible refine stop_store 72 (.tmp 2) (.tmp 64) rfl rfl ?_)
        refine Stop.mk (wpList_storeB rfl _ _ _ rfl w.heap.size _ rfl rfl _ (BL.out.below E2.out.bel BL.out.lt) strTk rfl rfl (by simp [Value.oneCell']) ?_)
        intro w11 hb11 hk11
        have hkk := (Bw.out.trans (E2.out.bel.mono Bw.out.size)).trans (hk11.oneB (Nat.le_trans Bw.out.size E2.out.bel.size) (Nat.le_refl _))
        clear hk11
        go_wp2_with (fail)
        refine bodyPost_ret (results_B2 rfl rfl rfl hb11 strTk rfl) rfl (RetV.of ?_ hkk)
        rw [V.out.1, V.out.2] <;> rfl
set_option maxHeartbeats 1000000 in
set_option maxRecDepth 4000 in
theorem token_Parse_other (s : List UInt8) (hs : s.length ≤ 1000000) (hl : ∀ a b c d, cuts 46 s ≠ [a, b, c, d]) (w : World) (hM : MaxV w) : Calls Tryd.prog 31 #[.string (str s)] w (RetV w (.tuple #[.agg (tkV s).arr, .bool (tkO s)])) := by
  rw [(tkV_none (tkParse_no hl)).1, (tkV_none (tkParse_no hl)).2]
  have h4 := len_ne4 hl
  have CS := Lib.hid (fun w' (hb : Below w.heap.size w w') => c_Split s 46 w' (hM.below hb) (by omega))
  have hcl := cuts_len 46 s
  obtain ⟨l, hl⟩ : ∃ l, cuts 46 s = l := ⟨_, rfl⟩
  rw [hl] at h4 hcl CS
  have k4 : ((l.length : Int) == 4) = false := by rw [beq_eq_false_iff_ne]; omega
  have BL := Lib.hid (At.new w 72 tz.arr)
  clear h4 hl hM
  go_enter Tryd.func31, Tryd.ntmps31
  go_wp2_with (fail)
  refine (CS.out _ BL.out.1).mono ?_
  rintro e w1 ⟨A9, c9, rfl, hin, hb1⟩
  have hC9 := hin.2.1
  have hL9 := hin.1
  have BW := Lib.hid (BL.out.step hb1).1
  replace BL := Lib.hid (BL.out.step hb1).2
  clear hb1 hin
  go_wp2_with (with_reducible refine stop_store 72 (.tmp 2) (.tmp 16) rfl rfl ?_)
  refine Stop.mk (wpList_storeB rfl _ _ _ rfl w.heap.size _ rfl rfl _ BL.out strTk rfl rfl (by simp [Value.oneCell']) ?_)
  intro w11 hb11 hk11
  have hkk := BW.out.trans (hk11.oneB BW.out.size (Nat.le_refl _))
  clear hk11
  go_wp2_with (fail)
  exact bodyPost_ret (results_B2 rfl rfl rfl hb11 strTk rfl) rfl (RetV.of rfl hkk)
theorem c_token_Parse (s : List UInt8) (hs : s.length ≤ 1000000) (w : World) (hM : MaxV w) : Calls Tryd.prog 31 #[.string (str s)] w (RetV w (.tuple #[.agg (tkV s).arr, .bool (tkO s)])) := by
  rcases Classical.em (∃ a b c d, cuts 46 s = [a, b, c, d]) with ⟨a, b, c, d, hl⟩ | hl
  · exact token_Parse_four s a b c d hs hl w hM
  · exact token_Parse_other s hs (fun a b c d e => hl ⟨a, b, c, d, e⟩) w hM
end Go.Proofs.YtfgjhgecmelccaaDoor
namespace Go.Proofs.YtfgjhgecmelccaaDoor
open Go.RowKit

structure Card where
  id : Int
  ver : Int
  lab : Nat
  f : List Val
deriving DecidableEq
structure Patch where
  mask : Nat
  lab : Nat
  f : List Val
deriving DecidableEq
structure Edit where
  kind : Int
  id : Int
  group : Int
  p : Patch
deriving DecidableEq
@[irreducible] def farr (f : List Val) : Array Value := (f.flatMap Val.cells).toArray
@[irreducible] def Card.arr (c : Card) : Array Value := (([.int .i64 c.id, .int .i64 c.ver, .int .u32 c.lab] : List Value) ++ c.f.flatMap Val.cells).toArray
@[irreducible] def Patch.arr (p : Patch) : Array Value := (([.int .u32 p.mask, .int .u32 p.lab] : List Value) ++ p.f.flatMap Val.cells).toArray
@[irreducible] def Edit.arr (e : Edit) : Array Value := (([.int .i64 e.kind, .int .i64 e.id, .int .i64 e.group, .int .u32 e.p.mask, .int .u32 e.p.lab] : List Value) ++ e.p.f.flatMap Val.cells).toArray
section
variable {f : List Val} {k : Nat}
end
end Go.Proofs.YtfgjhgecmelccaaDoor
