/-
  Lemmas (walks and plain laws), in one text.
-/
import Derived.Test.YtfgjhgecmelccaaDoorTb11
import Derived.Test.YtfgjhgecmelccaaDoorRows
import Derived.WalkKit
import Derived.WalkSpells
import Derived.WalkLawsBesides
import Derived.Lib.Hide
import Derived.Deep.QuietTactic
import Derived.BigQuiet
import Derived.Maps.AppendAt
import Derived.WalkSmall
import Derived.ProofKit
import Derived.OpenShut
import Derived.JoinedCond
import Derived.Deep.Slices
import Derived.Deep.Fields
import Derived.Carry
import Derived.HandedShaped
import Derived.Shelf.Strings.Builder1
import Derived.Shelf.Strings.Builder2
import Derived.Shelf.Strings.OnBuilder
import Derived.Shelf.Small.Wraps
import Derived.Shelf.Utf8.RuneCount
import Derived.Shelf.Strconv.Itoa0
import Derived.Shelf.Strconv.Itoa1
import Derived.Shelf.LaysM
import Derived.Shelf.Strconv.Itoa2
import Derived.Shelf.Strconv.Itoa3
import Derived.Shelf.Strings.Search1
import Derived.Shelf.Strings.Search2
import Derived.Shelf.Strings.Search3
import Derived.Shelf.Strings.Count
import Derived.Shelf.Strings.Shaped
import Derived.Shelf.Strings.Split
import Derived.Shelf.Strings.SplitShaped
import Derived.Shelf.Unicode.Decode
import Derived.Shelf.Strings.RuneCount
import Derived.Shelf.Strings.Explode
import Derived.Shelf.Unicode.DecodeSlow
import Derived.Test.YtfgjhgecmelccaaDoorProg
import Derived.Deep.AppendSrc
import Derived.Lib.AppendStr
import Derived.Laws.BytesArg
import Derived.Lib.AppendIntMem
import Derived.Lib.ItoaLen
import Derived.Lib.TrailingZeros
import Derived.Lib.SplitLaws
import Derived.Lib.ItoaNum
import Derived.Shelf.Strings.PiecesUse
import Derived.Shelf.Spec.TrailingZeros
import Derived.RangeFuncNested
import Derived.RangeFuncBound
import Derived.RangeFuncCalls
import Derived.RangeFuncLeaves
import Derived.Shelf.Abstract
import Derived.Shelf.RegionOpen
import Derived.OwnWalkIn
import Derived.TacticsInMore
import Derived.LoopNIn
import Derived.LoopIn
import Derived.Test.YtfgjhgecmelccaaDoorTie
import Derived.Lib.LaidTab
import Derived.LaidMore
import Derived.Lay
import Derived.Stop.LaidErr
import Derived.SevenTiedAt
import Derived.Test.YtfgjhgecmelccaaDoorCards
import Derived.Deep.CutBlock
import Derived.Deep.DeepCutAuto
import Derived.Laws.Tables
import Derived.Laws.Rows
import Derived.Laws.CopyOwn
import Derived.Outline
import Derived.IntWalk
import Derived.Lib.EndianBits
import Derived.StillTail
import Derived.Laws.IdiomStrings
import Derived.ChangeKeysEq
import Derived.Laws.StructEq
namespace Go.Proofs.YtfgjhgecmelccaaDoor
open Go.RowKit

set_option maxHeartbeats 4000000 in
set_option maxRecDepth 4000 in
theorem c_token_Read (p : Option Nat) (st : Rd) (w : World) (hr : RdP w p st) : Calls Tryd.prog 45 #[ptr p] w (RetP p (rdTok' st) w (.agg (rdTok st).arr)) := by
  obtain ⟨D0, h0⟩ : ∃ D, D = rdN st 5 := ⟨_, rfl⟩
  obtain ⟨D1, h1⟩ : ∃ D, D = rdN (tkA st) 1099511627776 := ⟨_, rfl⟩
  obtain ⟨D2, h2⟩ : ∃ D, D = rdN (tkB st) 1099511627776 := ⟨_, rfl⟩
  obtain ⟨D3, h3⟩ : ∃ D, D = rdN (tkC st) 1073741824 := ⟨_, rfl⟩
  obtain ⟨S1, hS1⟩ : ∃ D, D = tkB st := ⟨_, rfl⟩
  obtain ⟨SS, hSS⟩ : ∃ D, D = rdTok' st := ⟨_, rfl⟩
  obtain ⟨TT, hTT⟩ : ∃ D, D = rdTok st := ⟨_, rfl⟩
  have H0 := Lib.hid h0
  have H1 := Lib.hid h1
  have H2 := Lib.hid h2
  have H3 := Lib.hid h3
  have HS1 := Lib.hid hS1
  have HSS := Lib.hid (hSS.trans (rdTok'_def st))
  have HT1 := Lib.hid (show SS.e = 0 → TT = ⟨D0, D1, D2, D3⟩ by
    intro h
    rw [hTT, rdTok_ok (by rw [← hSS]; exact h)]
    unfold tkTok
    rw [h0, h1, h2, h3])
  have HT2 := Lib.hid (show SS.e ≠ 0 → TT = tz by
    intro h
    rw [hTT]
    exact rdTok_bad (by rw [← hSS]; exact h))
  have hz : (D1 = 0 ∧ S1 = rdF (rdN' (tkA st) 1099511627776) 3) ∨ (D1 ≠ 0 ∧ S1 = rdN' (tkA st) 1099511627776) := by
    by_cases hd : D1 = 0
    · left; refine ⟨hd, ?_⟩; rw [hS1]; unfold tkB; exact rdAb'_zero (by rw [← h1]; exact hd)
    · right; refine ⟨hd, ?_⟩; rw [hS1]; unfold tkB; exact rdAb'_pos (by rw [← h1]; exact hd)
  have HZ := Lib.hid hz
  rw [← hSS, ← hTT]
  have E := Lib.hid (((EnvP.start hr).alloc 72 tz.arr).alloc 138 #[.int .i64 0, .int .i64 0, .int .i64 0, .int .i64 0])
  rw [World.size_alloc] at E
  clear h0 h1 h2 h3 hS1 hSS hTT hr hz
  go_enter Tryd.func45, Tryd.ntmps45
  go_wp2_with (fail)
  refine (c_token_most _).mono ?_
  rintro e w2 ⟨rfl, hb2⟩
  replace E := Lib.hid (E.out.below hb2)
  have hzz := E.out.b0.lt
  clear hb2
  go_wp2_with (with_reducible refine stop_store 138 (.tmp 4) (.tmp 6) rfl rfl ?_)
  replace E := Lib.hid (E.out.alloc 138 #[.int .i64 0, .int .i64 0, .int .i64 0, .int .i64 0])
  refine Stop.mk (wpList_storeB rfl _ _ _ rfl w2.heap.size _ rfl rfl _ E.out.b0 str4i rfl rfl (by simp [Value.oneCell']) ?_)
  intro w4 hb4 hk4
  replace E := Lib.hid (E.out.put0 hb4 hk4)
  clear hb4 hk4
  obtain ⟨g', hg'⟩ : ∃ g, g = w2.heap.size := ⟨_, rfl⟩
  obtain ⟨g, hg⟩ : ∃ g, g = w.heap.size + 1 := ⟨_, rfl⟩
  have hgg : g < g' := by omega
  go_wp2_with (fail)
  rw [← hg', ← hg] at E ⊢
  clear hg hg' hzz
  go_loopw [5, 7] (fun _ i wr => ∃ (k : Nat) (S : Rd) (x0 x1 x2 x3 : Int), k ≤ 4 ∧ i = .int .i64 k ∧ Hid ((k = 0 ∧ S = st ∧ x0 = 0 ∧ x1 = 0 ∧ x2 = 0 ∧ x3 = 0) ∨ (k = 1 ∧ S = tkA st ∧ x0 = D0 ∧ x1 = 0 ∧ x2 = 0 ∧ x3 = 0) ∨ (k = 2 ∧ S = S1 ∧ x0 = D0 ∧ x1 = D1 ∧ x2 = 0 ∧ x3 = 0) ∨ (k = 3 ∧ S = tkC st ∧ x0 = D0 ∧ x1 = D1 ∧ x2 = D2 ∧ x3 = 0) ∨ (k = 4 ∧ S = SS ∧ x0 = D0 ∧ x1 = D1 ∧ x2 = D2 ∧ x3 = D3)) ∧
      Hid (EnvP p S w wr [(g', most4), (g, #[.int .i64 x0, .int .i64 x1, .int .i64 x2, .int .i64 x3]), (w.heap.size, tz.arr)]))
    (fun _ i _ => 4 - (intOf i).toNat)
  case atStart => exact ⟨0, st, 0, 0, 0, 0, by omega, rfl, .inl ⟨rfl, rfl, rfl, rfl, rfl, rfl⟩, E.out⟩
  case round =>
    obtain ⟨k, S, x0, x1, x2, x3, hk, rfl, HC, E1⟩ := hrel
    clear E hk
    have m0 := E1.out.b0.cell (show most4[0]? = _ from rfl)
    have m1 := E1.out.b0.cell (show most4[1]? = _ from rfl)
    have m2 := E1.out.b0.cell (show most4[2]? = _ from rfl)
    have m3 := E1.out.b0.cell (show most4[3]? = _ from rfl)
    have hlt3 := E1.out.b1.lt
    have hlt4 := E1.out.b0.lt
    rcases HC.out with ⟨rfl, rfl, rfl, rfl, rfl, rfl⟩ | ⟨rfl, rfl, rfl, rfl, rfl, rfl⟩ | ⟨rfl, rfl, rfl, rfl, rfl, rfl⟩ | ⟨rfl, rfl, rfl, rfl, rfl, rfl⟩ | ⟨rfl, rfl, rfl, rfl, rfl, rfl⟩
    all_goals clear HC
    · go_wp2_with (fail)
      refine (c_octet_RNum p _ 5 _ E1.out.rd).mono ?_
      rintro e w5 ⟨rfl, hr5, hk5⟩
      rw [← H0.out]
      replace E1 := Lib.hid ((E1.out.call hr5 hk5).state (show _ = tkA S from rfl))
      have ff := fun i => E1.out.b1.frozen i
      have c0 := E1.out.b1.cell (i := 0) rfl
      have hl5 := E1.out.b1.lt
      clear hr5 hk5 m0 m1 m2 m3 hlt3 hlt4
      go_wp2_with (fail)
      go_roundw
      case rel => exact ⟨1, tkA S, D0, 0, 0, 0, by omega, rfl, .inr (.inl ⟨rfl, rfl, rfl, rfl, rfl, rfl⟩), E1.out.store1 0 (.int .i64 D0)⟩
      case measure => simp [intOf]
    · go_wp2_with (fail)
      refine (c_octet_RNum p _ 1099511627776 _ E1.out.rd).mono ?_
      rintro e w5 ⟨rfl, hr5, hk5⟩
      rw [← H1.out]
      replace E1 := Lib.hid (E1.out.call hr5 hk5)
      have ff := fun i => E1.out.b1.frozen i
      have c1 := E1.out.b1.cell (i := 1) rfl
      have hl5 := E1.out.b1.lt
      have E2 := Lib.hid (E1.out.store1 1 (.int .i64 D1))
      clear hr5 hk5 m0 m1 m2 m3 hlt3 hlt4
      rcases HZ.out with ⟨hd, hs⟩ | ⟨hd, hs⟩
      · have j : (D1 == 0) = true := by simpa using hd
        have HS := Lib.hid hs
        clear hd hs
        go_wp2_with (fail)
        refine (c_octet_Fail p _ 3 _ E2.out.rd).mono ?_
        rintro e w6 ⟨rfl, hr6, hk6⟩
        replace E2 := Lib.hid ((E2.out.call hr6 hk6).state HS.out.symm)
        clear hr6 hk6 ff c1 hl5 E1
        go_wp2_with (fail)
        go_roundw
        case rel => exact ⟨2, S1, x0, D1, 0, 0, by omega, rfl, .inr (.inr (.inl ⟨rfl, rfl, rfl, rfl, rfl, rfl⟩)), E2.out⟩
        case measure => simp [intOf]
      · have j : (D1 == 0) = false := by simpa using hd
        have HS := Lib.hid hs
        clear hd hs
        go_wp2_with (fail)
        go_roundw
        case rel => exact ⟨2, S1, x0, D1, 0, 0, by omega, rfl, .inr (.inr (.inl ⟨rfl, rfl, rfl, rfl, rfl, rfl⟩)), E2.out.state HS.out.symm⟩
        case measure => simp [intOf]
    · go_wp2_with (fail)
      refine (c_octet_RNum p _ 1099511627776 _ E1.out.rd).mono ?_
      rintro e w5 ⟨rfl, hr5, hk5⟩
      rw [show rdN S 1099511627776 = D2 by rw [H2.out, HS1.out]]
      replace E1 := Lib.hid ((E1.out.call hr5 hk5).state (show _ = tkC st by rw [HS1.out]; rfl))
      have ff := fun i => E1.out.b1.frozen i
      have c0 := E1.out.b1.cell (i := 2) rfl
      have hl5 := E1.out.b1.lt
      clear hr5 hk5 m0 m1 m2 m3 hlt3 hlt4
      go_wp2_with (fail)
      go_roundw
      case rel => exact ⟨3, tkC st, x0, x1, D2, 0, by omega, rfl, .inr (.inr (.inr (.inl ⟨rfl, rfl, rfl, rfl, rfl, rfl⟩))), E1.out.store1 2 (.int .i64 D2)⟩
      case measure => simp [intOf]
    · go_wp2_with (fail)
      refine (c_octet_RNum p _ 1073741824 _ E1.out.rd).mono ?_
      rintro e w5 ⟨rfl, hr5, hk5⟩
      rw [← H3.out]
      replace E1 := Lib.hid ((E1.out.call hr5 hk5).state (show _ = SS from HSS.out.symm))
      have ff := fun i => E1.out.b1.frozen i
      have c0 := E1.out.b1.cell (i := 3) rfl
      have hl5 := E1.out.b1.lt
      clear hr5 hk5 m0 m1 m2 m3 hlt3 hlt4
      go_wp2_with (fail)
      go_roundw
      case rel => exact ⟨4, SS, x0, x1, x2, D3, by omega, rfl, .inr (.inr (.inr (.inr ⟨rfl, rfl, rfl, rfl, rfl, rfl⟩))), E1.out.store1 3 (.int .i64 D3)⟩
      case measure => simp [intOf]
    · clear m0 m1 m2 m3 hlt3 hlt4
      cases hb : (S.e != 0)
      all_goals
        go_wp2_with (fail)
        refine (c_octet_Err p _ _ E1.out.rd).mono ?_
        rintro e w9 ⟨rfl, hr9, hk9⟩
        have E2 := Lib.hid (E1.out.call hr9 hk9)
        clear hr9 hk9
      · have HE := Lib.hid (HT1.out (by simpa using hb))
        go_wp2_with (with_reducible refine stop_load 138 (.tmp 3) rfl rfl ?_)
        refine Stop.mk (wpList_loadB rfl _ _ rfl g rfl _ E2.out.b1 str4i rfl ?_)
        go_wp2_with (fail)
        refine (c_token_of ⟨x0, x1, x2, x3⟩ _).mono ?_
        rintro e w10 ⟨rfl, hb10⟩
        replace E2 := Lib.hid (E2.out.below hb10)
        clear hb10
        go_wp2_with (with_reducible refine stop_store 72 (.tmp 2) (.tmp 33) rfl rfl ?_)
        refine Stop.mk (wpList_storeB rfl _ _ _ rfl w.heap.size _ rfl rfl _ E2.out.blks.2.2.1.1 strTk rfl rfl (by simp [Value.oneCell']) ?_)
        intro w11 hb11 hk11
        have hkk := E2.out.own (g := w.heap.size) (Nat.le_refl _) hk11
        clear hk11
        go_wp2_with (fail)
        refine bodyPost_ret (results_B rfl rfl hb11 strTk rfl) rfl ⟨?_, hkk.2, hkk.1⟩
        rw [HE.out]
      · have HE := Lib.hid (HT2.out (by simpa using hb))
        go_wp2_with (with_reducible refine stop_store 72 (.tmp 2) (.tmp 31) rfl rfl ?_)
        refine Stop.mk (wpList_storeB rfl _ _ _ rfl w.heap.size _ rfl rfl _ E2.out.blks.2.2.1.1 strTk rfl rfl (by simp [Value.oneCell']) ?_)
        intro w11 hb11 hk11
        have hkk := E2.out.own (g := w.heap.size) (Nat.le_refl _) hk11
        clear hk11
        go_wp2_with (fail)
        refine bodyPost_ret (results_B rfl rfl hb11 strTk rfl) rfl ⟨?_, hkk.2, hkk.1⟩
        rw [HE.out]
end Go.Proofs.YtfgjhgecmelccaaDoor
namespace Go.Proofs.YtfgjhgecmelccaaDoor
open Go.RowKit

theorem h_tok : Tryd.prog.stoodInHeld 72 = false := by kernel_rfl
theorem u_tok : Tryd.prog.underlying 72 = some (.struct (Tryd.prog.fieldsOf 72)) := by kernel_rfl
theorem f_tok : (Tryd.prog.fieldsOf 72).toList.map (fun f => (f.name == "_", f.type, f.offset)) = [(false, 3, 0), (false, 3, 1), (false, 3, 2), (false, 3, 3)] := by kernel_rfl
theorem gT : Tryd.prog.eqGuardType Tryd.prog.depth 72 = false := by kernel_rfl
set_option maxRecDepth 100000 in
theorem eq_tok (d : Nat) (x y : Tok) (w : World) : (Op.equalIn (d + 2) 72 (.agg x.arr) (.agg y.arr)).run Tryd.prog w = .ok (decide (x = y)) w := by
  have h : (eqF (d + 1) x.arr y.arr [(false, 3, 0), (false, 3, 1), (false, 3, 2), (false, 3, 3)]).run Tryd.prog w = .ok (x.dev == y.dev && (x.epoch == y.epoch && (x.seq == y.seq && (x.cursor == y.cursor && true)))) w :=
    eqF_cons _ _ _ _ _ _ (run_part_plain w plain3 rfl) (run_part_plain w plain3 rfl) (run_equalIn_int w d _ _ _ _ _ Tryd.underlying3)
    (eqF_cons _ _ _ _ _ _ (run_part_plain w plain3 rfl) (run_part_plain w plain3 rfl) (run_equalIn_int w d _ _ _ _ _ Tryd.underlying3)
    (eqF_cons _ _ _ _ _ _ (run_part_plain w plain3 rfl) (run_part_plain w plain3 rfl) (run_equalIn_int w d _ _ _ _ _ Tryd.underlying3)
    (eqF_cons _ _ _ _ _ _ (run_part_plain w plain3 rfl) (run_part_plain w plain3 rfl) (run_equalIn_int w d _ _ _ _ _ Tryd.underlying3)
      (eqF_nil _ _ _))))
  rw [eqS (d + 1) _ _ _ u_tok h_tok f_tok h]
  congr 1
  rw [Bool.eq_iff_iff]
  obtain ⟨a, b, c, e⟩ := x
  obtain ⟨a', b', c', e'⟩ := y
  simp
abbrev a26 : Tok := ⟨2, 1, 7, 1073741824⟩
theorem a26_text : tokT a26 = [50, 46, 49, 46, 55, 46, 97, 108, 108] := by decide +kernel
set_option maxHeartbeats 400000 in
theorem c_law26_awake (w : World) (hP : PowTab w) : Calls Tryd.prog 30 #[] w (RetV w (.bool true)) := by
  go_enter Tryd.func30, Tryd.ntmps30
  go_wp2_with (fail)
  refine (c_token_Show a26 _ hP).mono ?_
  rintro e w1 ⟨rfl, hb1⟩
  rw [a26_text]
  go_wp2_with (fail)
  go_ret
  exact RetV.bool rfl hb1
end Go.Proofs.YtfgjhgecmelccaaDoor
namespace Go.Proofs.YtfgjhgecmelccaaDoor
open Go.RowKit

theorem splice_all {l : List UInt8} {cur : List Value} (hc : cur.length = l.length) : splice cur 0 (l.flatMap bc) = l.flatMap bc := by
  have hl := flat_length bc_len l
  unfold splice
  rw [List.take_zero, List.nil_append, List.drop_of_length_le (by omega), List.append_nil]
theorem Row.of_heap {w : World} {b : Nat} {t : TypeId} {l : List UInt8} (h : w.heap[b]? = some (.cells (l.flatMap bc).toArray t (0, 0))) : Row 1 bc w b 0 l := by
  intro i hi j u hu
  have hj : j < 1 := (List.getElem?_eq_some_iff.1 hu).1
  have h0 : j = 0 := by omega
  subst h0
  have := flat_get bc_len l i hi 0 (by omega)
  rw [cell_of_row w b _ _ _ _ h, List.getElem?_toArray, Nat.zero_add, this]
  exact hu
/-- The walk stands still at a copy. -/
theorem stop_copy {P : Program} {w : World} {ops : Array Oper} {rest : List Oper} {o : Oper} {a : Act} {Q : Exit → Act → World → Prop} (d s : Operand) (dT sT : TypeId)
    (_ : o.op = .call { callee := .builtin .copy, args := #[d, s], argTypes := #[dT, sT] }) (h : Stop (wpList P ops Q (o :: rest) a w)) : wpList P ops Q (o :: rest) a w := h
set_option maxHeartbeats 400000 in
set_option maxRecDepth 4000 in
theorem c_octet_New (l : List UInt8) (A : Option Addr) (c : Nat) (w : World) (h : InB w A c l) : Calls Tryd.prog 21 #[.slice A l.length c] w (RetNew w l) := by
  have hL := h.1
  have hC := h.2.1
  have hS := h.2.2.1
  obtain ⟨i, z, hi, hz0, hz1, hz2, hz3⟩ := elemB.info
  have H := Lib.hid h
  clear h
  go_enter Tryd.func21, Tryd.ntmps21
  go_wp2_with (at_make; refine Stop.out ?_)
  refine Stop.mk (wpList_make_full _ rfl (.tmp 5) (.tmp 5) 50 rfl w.heap.size 5 i z 1 Tryd.underlying50 hi hz0 hz1 _ _ _ _ l.length rfl rfl rfl rfl (by rw [hz2]; omega) (by unfold maxLen; omega) (Nat.le_refl _) ?_)
  intro w1 own1 g1
  have hb1 : Below w.heap.size w w1 := grown_below g1 (Nat.le_refl _) (fun k hk => by cases hk)
  obtain ⟨cur, hcur, hcl⟩ : ∃ cur : List Value, w1.heap[w.heap.size]? = some (.cells cur.toArray 5 (0, 0)) ∧ cur.length = l.length := by
    rcases own1.2 with ⟨hv, _⟩ | ⟨g, cap, cur, hv, _, hh, _, _, hs, _⟩
    · cases hv
    · injection hv with e1 e2 e3
      injection e1 with e1
      injection e1 with e1
      subst e1 e3
      exact ⟨cur.toList, hh, by simpa using hs⟩
  have Hcur := Lib.hid hcur
  have Hcl := Lib.hid hcl
  have Own1 := Lib.hid own1
  have hz1' := hb1.size
  clear hcur hcl own1 g1
  have hwz : w.heap.size < w1.heap.size := by
    have h1 := Hcur.out
    rcases Nat.lt_or_ge w.heap.size w1.heap.size with hlt | hge
    · exact hlt
    · rw [Array.getElem?_eq_none hge] at h1; cases h1
  go_wp2_with (with_reducible refine stop_copy (.tmp 7) (.tmp 8) _ _ rfl ?_)
  have hsrc := Src.of_in bc_len (by omega) (H.out.below hb1)
  have hfl := flat_length bc_len l
  refine Stop.mk (wpList_copy_splice rfl (.tmp 7) (.tmp 8) _ _ rfl 5 Tryd.underlying50 (by kernel_rfl) _ _ _ _ _ _ rfl rfl w.heap.size 0 cur 5 Hcur.out (l.flatMap bc) (by simp [hfl]) ?_ (by have := Hcl.out; omega) (bc_one l) w.heap.size w hb1 (Nat.le_refl _) ?_)
  · intro hpos
    obtain ⟨ad, h1, h2⟩ := hsrc.2 (by omega)
    exact ⟨rfl, ad, h1, h2⟩
  intro w2 hg2 hb2
  have hrow2 : Row 1 bc w2 w.heap.size 0 l := by
    have := hg2.out
    rw [splice_all Hcl.out] at this
    exact Row.of_heap this
  have hwz2 : w.heap.size < w2.heap.size := by
    have h1 := hg2.out
    rcases Nat.lt_or_ge w.heap.size w2.heap.size with hlt | hge
    · exact hlt
    · rw [Array.getElem?_eq_none hge] at h1; cases h1
  have Hrow2 := Lib.hid hrow2
  clear hrow2 hsrc hfl
  go_wp2_with (fail)
  go_ret
  refine ⟨w2.heap.size, rfl, by omega, ?_, (by repeat (first | exact Below.refl _ _ | refine Below.drew ?_ | refine Below.alloc ?_ (by first | omega | (simp; done) | (simp; omega)) _ | refine Below.setCell ?_ (by first | omega | (simp; done) | (simp; omega)) _ | refine Below.trans ?_ (Below.mono (by assumption) (by first | omega | (simp; done) | (simp; omega)))))⟩
  refine RdP.mk (A := some ⟨w.heap.size, 0, none⟩) (c := l.length) (B := l) (pos := 0) ⟨Blk.new _ _ _, by omega, Nat.le_refl _, by omega, hS, .inr ⟨_, _, rfl, hwz2, ?_⟩⟩ rfl
  exact Hrow2.out.below ((Below.refl _ _).alloc (Nat.le_refl _) _) hwz2
end Go.Proofs.YtfgjhgecmelccaaDoor
namespace Go.Proofs.YtfgjhgecmelccaaDoor
open Go.RowKit

theorem rdEnd_bad {st : Rd} (h : st.e ≠ 0) : rdEnd st = st.e := by unfold rdEnd; rw [if_neg (fun x => h x.1)]
theorem rdEnd_left {st : Rd} (h : st.e = 0) (hs : st.s ≠ []) : rdEnd st = 3 := by unfold rdEnd; rw [if_pos ⟨h, hs⟩]
theorem rdEnd_ok {st : Rd} (hs : st.s = []) : rdEnd st = st.e := by unfold rdEnd; rw [if_neg (fun x => x.2 hs)]
set_option maxHeartbeats 400000 in
theorem c_octet_End (p : Option Nat) (st : Rd) (w : World) (h : RdP w p st) : Calls Tryd.prog 46 #[ptr p] w (RetV w (.int .i64 (rdEnd st))) := by
  rcases p with _ | g
  · have hs := h.nil
    subst hs
    rw [ptr_none]
    go_enter Tryd.func46, Tryd.ntmps46
    go_wp2_with (fail)
    go_ret
    exact RetV.of rfl (by repeat (first | exact Below.refl _ _ | refine Below.drew ?_ | refine Below.alloc ?_ (by first | omega | (simp; done) | (simp; omega)) _ | refine Below.setCell ?_ (by first | omega | (simp; done) | (simp; omega)) _ | refine Below.trans ?_ (Below.mono (by assumption) (by first | omega | (simp; done) | (simp; omega)))))
  · obtain ⟨A, c, B, pos, ha, hs⟩ := h.at
    have c2 : w.cell? ⟨g, 2, none⟩ = some (.int .i64 st.e) := ha.1.cell rfl
    have H := Lib.hid h
    clear h ha hs
    rw [ptr_some]
    by_cases he : st.e = 0
    · have k : (st.e == 0) = true := by simpa using he
      by_cases hl : st.s = []
      · rw [rdEnd_ok hl]
        have HL := Lib.hid (show st.s.length = 0 by rw [hl]; rfl)
        clear he hl
        go_enter Tryd.func46, Tryd.ntmps46
        go_wp2_with (fail)
        refine (c_octet_Left' (some g) st _ H.out).mono ?_
        rintro e w1 ⟨rfl, hb1⟩
        have c3 : w1.cell? ⟨g, 2, none⟩ = some (.int .i64 st.e) := by rw [hb1.cell (H.out.lt rfl)]; exact c2
        rw [HL.out]
        clear c2
        go_wp2_with (fail)
        go_ret
        exact RetV.of rfl (by repeat (first | exact Below.refl _ _ | refine Below.drew ?_ | refine Below.alloc ?_ (by first | omega | (simp; done) | (simp; omega)) _ | refine Below.setCell ?_ (by first | omega | (simp; done) | (simp; omega)) _ | refine Below.trans ?_ (Below.mono (by assumption) (by first | omega | (simp; done) | (simp; omega)))))
      · rw [rdEnd_left he hl]
        have hp : 0 < st.s.length := List.length_pos_iff.2 hl
        have HP := Lib.hid hp
        clear he hl hp
        go_enter Tryd.func46, Tryd.ntmps46
        go_wp2_with (fail)
        refine (c_octet_Left' (some g) st _ H.out).mono ?_
        rintro e w1 ⟨rfl, hb1⟩
        have k2 : decide (0 < (st.s.length : Int)) = true := by have := HP.out; simp; omega
        go_wp2_with (fail)
        go_ret
        exact RetV.of rfl (by repeat (first | exact Below.refl _ _ | refine Below.drew ?_ | refine Below.alloc ?_ (by first | omega | (simp; done) | (simp; omega)) _ | refine Below.setCell ?_ (by first | omega | (simp; done) | (simp; omega)) _ | refine Below.trans ?_ (Below.mono (by assumption) (by first | omega | (simp; done) | (simp; omega)))))
    · rw [rdEnd_bad he]
      have k : (st.e == 0) = false := by simpa using he
      clear he
      go_enter Tryd.func46, Tryd.ntmps46
      go_wp2_with (fail)
      go_ret
      exact RetV.of rfl (by repeat (first | exact Below.refl _ _ | refine Below.drew ?_ | refine Below.alloc ?_ (by first | omega | (simp; done) | (simp; omega)) _ | refine Below.setCell ?_ (by first | omega | (simp; done) | (simp; omega)) _ | refine Below.trans ?_ (Below.mono (by assumption) (by first | omega | (simp; done) | (simp; omega)))))
end Go.Proofs.YtfgjhgecmelccaaDoor
namespace Go.Proofs.YtfgjhgecmelccaaDoor
open Go.RowKit

/-- The two readers; g ahead of h; nothing below the call's own has turned. -/
structure RW (w w' : World) (g h : Nat) (s1 s2 : Rd) : Prop where
  below : Below w.heap.size w w'
  rp : RdP w' (some g) s1
  rr : RdR w' h s2
  og : w.heap.size ≤ g
  gh : g < h
section
variable {w w' w2 : World} {g h : Nat} {s1 s2 s3 : Rd}
theorem RW.step (L : RW w w' g h s1 s2) (hb : Below w'.heap.size w' w2) : RW w w2 g h s1 s2 := ⟨L.below.trans (hb.mono L.below.size), L.rp.below hb, L.rr.below hb, L.og, L.gh⟩
theorem RW.hi (L : RW w w' g h s1 s2) : h < w'.heap.size := L.rr.lt
end
end Go.Proofs.YtfgjhgecmelccaaDoor
