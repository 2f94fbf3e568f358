/-
  Lemmas (walks and plain laws), in one text.
-/
import Derived.Test.YtjhndilflcigiaaDoorQd6
import Derived.Test.YtjhndilflcigiaaDoorRows
import Derived.WalkKit
import Derived.WalkSpells
import Derived.WalkLawsBesides
import Derived.Lib.Hide
import Derived.Deep.QuietTactic
import Derived.BigQuiet
import Derived.Maps.AppendAt
import Derived.WalkSmall
import Derived.ProofKit
import Derived.OpenShut
import Derived.JoinedCond
import Derived.Deep.Slices
import Derived.Deep.Fields
import Derived.Carry
import Derived.Shelf.Strings.Builder1
import Derived.Shelf.Strings.Builder2
import Derived.Shelf.Strings.OnBuilder
import Derived.Shelf.Strings.BuilderF
import Derived.Shelf.Strings.BuilderK
import Derived.Shelf.Strings.Builder2Cap
import Derived.Shelf.Strconv.Itoa0
import Derived.Shelf.Strconv.Itoa1
import Derived.Shelf.LaysM
import Derived.Shelf.Strconv.Itoa2
import Derived.Shelf.Strconv.Itoa3
import Derived.Ground.Names2Prog
import Derived.Shelf.Slices.Clone
import Derived.Shelf.Slices.SearchI
import Derived.Ground.SlgnProg
import Derived.Shelf.SlicesE.Clone
import Derived.Test.YtjhndilflcigiaaDoorProg
import Derived.Deep.AppendSrc
import Derived.Lib.AppendStr
import Derived.Laws.BytesArg
import Derived.Lib.AppendIntMem
import Derived.Lib.ItoaLen
import Derived.Test.YtjhndilflcigiaaDoorTie
import Derived.Lib.LaidTab
import Derived.LaidMore
import Derived.Stop.LaidErr
import Derived.SevenTiedAt
import Derived.Test.YtjhndilflcigiaaDoorCards
import Derived.Deep.CutBlock
import Derived.Deep.DeepCutAuto
import Derived.Laws.Tables
import Derived.Laws.Rows
import Derived.Shelf.Spec.TrailingZeros
import Derived.RangeFuncNested
import Derived.RangeFuncBound
import Derived.RangeFuncCalls
import Derived.RangeFuncLeaves
import Derived.Shelf.Abstract
import Derived.Shelf.RegionOpen
import Derived.OwnWalkIn
import Derived.TacticsInMore
import Derived.LoopNIn
import Derived.LoopIn
import Derived.ChangeKeysEq
import Derived.Laws.StructEq
import Derived.Laws.CopyOwn
import Derived.Outline
import Derived.IntWalk
import Derived.Lib.EndianBits
import Derived.StillTail
namespace Go.Proofs.YtjhndilflcigiaaDoor
open Go.RowKit

set_option maxHeartbeats 4000000 in
set_option maxRecDepth 4000 in
theorem c_token_Read (p : Option Nat) (st : Rd) (w : World) (hr : RdP w p st) : Calls Tryd.prog 17 #[ptr p] w (RetP p (rdTok' st) w (.agg (rdTok st).arr)) := by
  obtain ⟨D0, h0⟩ : ∃ D, D = rdN st 5 := ⟨_, rfl⟩
  obtain ⟨D1, h1⟩ : ∃ D, D = rdN (tkA st) 1099511627776 := ⟨_, rfl⟩
  obtain ⟨D2, h2⟩ : ∃ D, D = rdN (tkB st) 1099511627776 := ⟨_, rfl⟩
  obtain ⟨D3, h3⟩ : ∃ D, D = rdN (tkC st) 1073741824 := ⟨_, rfl⟩
  obtain ⟨S1, hS1⟩ : ∃ D, D = tkB st := ⟨_, rfl⟩
  obtain ⟨SS, hSS⟩ : ∃ D, D = rdTok' st := ⟨_, rfl⟩
  obtain ⟨TT, hTT⟩ : ∃ D, D = rdTok st := ⟨_, rfl⟩
  have H0 := Lib.hid h0
  have H1 := Lib.hid h1
  have H2 := Lib.hid h2
  have H3 := Lib.hid h3
  have HS1 := Lib.hid hS1
  have HSS := Lib.hid (hSS.trans (rdTok'_def st))
  have HT1 := Lib.hid (show SS.e = 0 → TT = ⟨D0, D1, D2, D3⟩ by
    intro h
    rw [hTT, rdTok_ok (by rw [← hSS]; exact h)]
    unfold tkTok
    rw [h0, h1, h2, h3])
  have HT2 := Lib.hid (show SS.e ≠ 0 → TT = tz by
    intro h
    rw [hTT]
    exact rdTok_bad (by rw [← hSS]; exact h))
  have hz : (D1 = 0 ∧ S1 = rdF (rdN' (tkA st) 1099511627776) 3) ∨ (D1 ≠ 0 ∧ S1 = rdN' (tkA st) 1099511627776) := by
    by_cases hd : D1 = 0
    · left; refine ⟨hd, ?_⟩; rw [hS1]; unfold tkB; exact rdAb'_zero (by rw [← h1]; exact hd)
    · right; refine ⟨hd, ?_⟩; rw [hS1]; unfold tkB; exact rdAb'_pos (by rw [← h1]; exact hd)
  have HZ := Lib.hid hz
  rw [← hSS, ← hTT]
  have E := Lib.hid (((EnvP.start hr).alloc 47 tz.arr).alloc 86 #[.int .i64 0, .int .i64 0, .int .i64 0, .int .i64 0])
  rw [World.size_alloc] at E
  clear h0 h1 h2 h3 hS1 hSS hTT hr hz
  go_enter Tryd.func17, Tryd.ntmps17
  go_wp2_with (fail)
  refine (c_token_most _).mono ?_
  rintro e w2 ⟨rfl, hb2⟩
  replace E := Lib.hid (E.out.below hb2)
  have hzz := E.out.b0.lt
  clear hb2
  go_wp2_with (with_reducible refine stop_store 86 (.tmp 4) (.tmp 6) rfl rfl ?_)
  replace E := Lib.hid (E.out.alloc 86 #[.int .i64 0, .int .i64 0, .int .i64 0, .int .i64 0])
  refine Stop.mk (wpList_storeB rfl _ _ _ rfl w2.heap.size _ rfl rfl _ E.out.b0 str4i rfl rfl (by simp [Value.oneCell']) ?_)
  intro w4 hb4 hk4
  replace E := Lib.hid (E.out.put0 hb4 hk4)
  clear hb4 hk4
  obtain ⟨g', hg'⟩ : ∃ g, g = w2.heap.size := ⟨_, rfl⟩
  obtain ⟨g, hg⟩ : ∃ g, g = w.heap.size + 1 := ⟨_, rfl⟩
  have hgg : g < g' := by omega
  go_wp2_with (fail)
  rw [← hg', ← hg] at E ⊢
  clear hg hg' hzz
  go_loopw [5, 7] (fun _ i wr => ∃ (k : Nat) (S : Rd) (x0 x1 x2 x3 : Int), k ≤ 4 ∧ i = .int .i64 k ∧ Hid ((k = 0 ∧ S = st ∧ x0 = 0 ∧ x1 = 0 ∧ x2 = 0 ∧ x3 = 0) ∨ (k = 1 ∧ S = tkA st ∧ x0 = D0 ∧ x1 = 0 ∧ x2 = 0 ∧ x3 = 0) ∨ (k = 2 ∧ S = S1 ∧ x0 = D0 ∧ x1 = D1 ∧ x2 = 0 ∧ x3 = 0) ∨ (k = 3 ∧ S = tkC st ∧ x0 = D0 ∧ x1 = D1 ∧ x2 = D2 ∧ x3 = 0) ∨ (k = 4 ∧ S = SS ∧ x0 = D0 ∧ x1 = D1 ∧ x2 = D2 ∧ x3 = D3)) ∧
      Hid (EnvP p S w wr [(g', most4), (g, #[.int .i64 x0, .int .i64 x1, .int .i64 x2, .int .i64 x3]), (w.heap.size, tz.arr)]))
    (fun _ i _ => 4 - (intOf i).toNat)
  case atStart => exact ⟨0, st, 0, 0, 0, 0, by omega, rfl, .inl ⟨rfl, rfl, rfl, rfl, rfl, rfl⟩, E.out⟩
  case round =>
    obtain ⟨k, S, x0, x1, x2, x3, hk, rfl, HC, E1⟩ := hrel
    clear E hk
    have m0 := E1.out.b0.cell (show most4[0]? = _ from rfl)
    have m1 := E1.out.b0.cell (show most4[1]? = _ from rfl)
    have m2 := E1.out.b0.cell (show most4[2]? = _ from rfl)
    have m3 := E1.out.b0.cell (show most4[3]? = _ from rfl)
    have hlt3 := E1.out.b1.lt
    have hlt4 := E1.out.b0.lt
    rcases HC.out with ⟨rfl, rfl, rfl, rfl, rfl, rfl⟩ | ⟨rfl, rfl, rfl, rfl, rfl, rfl⟩ | ⟨rfl, rfl, rfl, rfl, rfl, rfl⟩ | ⟨rfl, rfl, rfl, rfl, rfl, rfl⟩ | ⟨rfl, rfl, rfl, rfl, rfl, rfl⟩
    all_goals clear HC
    · go_wp2_with (fail)
      refine (c_octet_RNum p _ 5 _ E1.out.rd).mono ?_
      rintro e w5 ⟨rfl, hr5, hk5⟩
      rw [← H0.out]
      replace E1 := Lib.hid ((E1.out.call hr5 hk5).state (show _ = tkA S from rfl))
      have ff := fun i => E1.out.b1.frozen i
      have c0 := E1.out.b1.cell (i := 0) rfl
      have hl5 := E1.out.b1.lt
      clear hr5 hk5 m0 m1 m2 m3 hlt3 hlt4
      go_wp2_with (fail)
      go_roundw
      case rel => exact ⟨1, tkA S, D0, 0, 0, 0, by omega, rfl, .inr (.inl ⟨rfl, rfl, rfl, rfl, rfl, rfl⟩), E1.out.store1 0 (.int .i64 D0)⟩
      case measure => simp [intOf]
    · go_wp2_with (fail)
      refine (c_octet_RNum p _ 1099511627776 _ E1.out.rd).mono ?_
      rintro e w5 ⟨rfl, hr5, hk5⟩
      rw [← H1.out]
      replace E1 := Lib.hid (E1.out.call hr5 hk5)
      have ff := fun i => E1.out.b1.frozen i
      have c1 := E1.out.b1.cell (i := 1) rfl
      have hl5 := E1.out.b1.lt
      have E2 := Lib.hid (E1.out.store1 1 (.int .i64 D1))
      clear hr5 hk5 m0 m1 m2 m3 hlt3 hlt4
      rcases HZ.out with ⟨hd, hs⟩ | ⟨hd, hs⟩
      · have j : (D1 == 0) = true := by simpa using hd
        have HS := Lib.hid hs
        clear hd hs
        go_wp2_with (fail)
        refine (c_octet_Fail p _ 3 _ E2.out.rd).mono ?_
        rintro e w6 ⟨rfl, hr6, hk6⟩
        replace E2 := Lib.hid ((E2.out.call hr6 hk6).state HS.out.symm)
        clear hr6 hk6 ff c1 hl5 E1
        go_wp2_with (fail)
        go_roundw
        case rel => exact ⟨2, S1, x0, D1, 0, 0, by omega, rfl, .inr (.inr (.inl ⟨rfl, rfl, rfl, rfl, rfl, rfl⟩)), E2.out⟩
        case measure => simp [intOf]
      · have j : (D1 == 0) = false := by simpa using hd
        have HS := Lib.hid hs
        clear hd hs
        go_wp2_with (fail)
        go_roundw
        case rel => exact ⟨2, S1, x0, D1, 0, 0, by omega, rfl, .inr (.inr (.inl ⟨rfl, rfl, rfl, rfl, rfl, rfl⟩)), E2.out.state HS.out.symm⟩
        case measure => simp [intOf]
    · go_wp2_with (fail)
      refine (c_octet_RNum p _ 1099511627776 _ E1.out.rd).mono ?_
      rintro e w5 ⟨rfl, hr5, hk5⟩
      rw [show rdN S 1099511627776 = D2 by rw [H2.out, HS1.out]]
      replace E1 := Lib.hid ((E1.out.call hr5 hk5).state (show _ = tkC st by rw [HS1.out]; rfl))
      have ff := fun i => E1.out.b1.frozen i
      have c0 := E1.out.b1.cell (i := 2) rfl
      have hl5 := E1.out.b1.lt
      clear hr5 hk5 m0 m1 m2 m3 hlt3 hlt4
      go_wp2_with (fail)
      go_roundw
      case rel => exact ⟨3, tkC st, x0, x1, D2, 0, by omega, rfl, .inr (.inr (.inr (.inl ⟨rfl, rfl, rfl, rfl, rfl, rfl⟩))), E1.out.store1 2 (.int .i64 D2)⟩
      case measure => simp [intOf]
    · go_wp2_with (fail)
      refine (c_octet_RNum p _ 1073741824 _ E1.out.rd).mono ?_
      rintro e w5 ⟨rfl, hr5, hk5⟩
      rw [← H3.out]
      replace E1 := Lib.hid ((E1.out.call hr5 hk5).state (show _ = SS from HSS.out.symm))
      have ff := fun i => E1.out.b1.frozen i
      have c0 := E1.out.b1.cell (i := 3) rfl
      have hl5 := E1.out.b1.lt
      clear hr5 hk5 m0 m1 m2 m3 hlt3 hlt4
      go_wp2_with (fail)
      go_roundw
      case rel => exact ⟨4, SS, x0, x1, x2, D3, by omega, rfl, .inr (.inr (.inr (.inr ⟨rfl, rfl, rfl, rfl, rfl, rfl⟩))), E1.out.store1 3 (.int .i64 D3)⟩
      case measure => simp [intOf]
    · clear m0 m1 m2 m3 hlt3 hlt4
      cases hb : (S.e != 0)
      all_goals
        go_wp2_with (fail)
        refine (c_octet_Err p _ _ E1.out.rd).mono ?_
        rintro e w9 ⟨rfl, hr9, hk9⟩
        have E2 := Lib.hid (E1.out.call hr9 hk9)
        clear hr9 hk9
      · have HE := Lib.hid (HT1.out (by simpa using hb))
        go_wp2_with (with_reducible refine stop_load 86 (.tmp 3) rfl rfl ?_)
        refine Stop.mk (wpList_loadB rfl _ _ rfl g rfl _ E2.out.b1 str4i rfl ?_)
        go_wp2_with (fail)
        refine (c_token_of ⟨x0, x1, x2, x3⟩ _).mono ?_
        rintro e w10 ⟨rfl, hb10⟩
        replace E2 := Lib.hid (E2.out.below hb10)
        clear hb10
        go_wp2_with (with_reducible refine stop_store 47 (.tmp 2) (.tmp 33) rfl rfl ?_)
        refine Stop.mk (wpList_storeB rfl _ _ _ rfl w.heap.size _ rfl rfl _ E2.out.blks.2.2.1.1 strTk rfl rfl (by simp [Value.oneCell']) ?_)
        intro w11 hb11 hk11
        have hkk := E2.out.own (g := w.heap.size) (Nat.le_refl _) hk11
        clear hk11
        go_wp2_with (fail)
        refine bodyPost_ret (results_B rfl rfl hb11 strTk rfl) rfl ⟨?_, hkk.2, hkk.1⟩
        rw [HE.out]
      · have HE := Lib.hid (HT2.out (by simpa using hb))
        go_wp2_with (with_reducible refine stop_store 47 (.tmp 2) (.tmp 31) rfl rfl ?_)
        refine Stop.mk (wpList_storeB rfl _ _ _ rfl w.heap.size _ rfl rfl _ E2.out.blks.2.2.1.1 strTk rfl rfl (by simp [Value.oneCell']) ?_)
        intro w11 hb11 hk11
        have hkk := E2.out.own (g := w.heap.size) (Nat.le_refl _) hk11
        clear hk11
        go_wp2_with (fail)
        refine bodyPost_ret (results_B rfl rfl hb11 strTk rfl) rfl ⟨?_, hkk.2, hkk.1⟩
        rw [HE.out]
end Go.Proofs.YtjhndilflcigiaaDoor
namespace Go.Proofs.YtjhndilflcigiaaDoor
open Go.RowKit

set_option maxHeartbeats 4000000 in
set_option maxRecDepth 4000 in
theorem c_ref26_Read (p : Nat) (st : Rd) (w : World) (hr : RdR w p st) : Calls Tryd.prog 18 #[.pointer (some ⟨p, 0, none⟩)] w (RetR p (rdTok' st) w (.agg (rdTok st).arr)) := by
  obtain ⟨D0, h0⟩ : ∃ D, D = rdN st 5 := ⟨_, rfl⟩
  obtain ⟨D1, h1⟩ : ∃ D, D = rdN (tkA st) 1099511627776 := ⟨_, rfl⟩
  obtain ⟨D2, h2⟩ : ∃ D, D = rdN (tkB st) 1099511627776 := ⟨_, rfl⟩
  obtain ⟨D3, h3⟩ : ∃ D, D = rdN (tkC st) 1073741824 := ⟨_, rfl⟩
  obtain ⟨SS, hSS⟩ : ∃ D, D = rdTok' st := ⟨_, rfl⟩
  obtain ⟨TT, hTT⟩ : ∃ D, D = rdTok st := ⟨_, rfl⟩
  have H0 := Lib.hid h0
  have H1 := Lib.hid h1
  have H2 := Lib.hid h2
  have H3 := Lib.hid h3
  have HSS := Lib.hid (hSS.trans (rdTok'_def st))
  have HT1 := Lib.hid (show SS.e = 0 → TT = ⟨D0, D1, D2, D3⟩ by
    intro h
    rw [hTT, rdTok_ok (by rw [← hSS]; exact h)]
    unfold tkTok
    rw [h0, h1, h2, h3])
  have HT2 := Lib.hid (show SS.e ≠ 0 → TT = tz by
    intro h
    rw [hTT]
    exact rdTok_bad (by rw [← hSS]; exact h))
  rw [← hSS, ← hTT]
  have E := Lib.hid ((EnvR.start hr).alloc 47 tz.arr)
  clear h0 h1 h2 h3 hSS hTT hr
  cases hb : (SS.e != 0)
  all_goals
    go_enter Tryd.func18, Tryd.ntmps18
    go_wp2_with (fail)
    refine (c_ref01_RNum p st 5 _ E.out.rd).mono ?_
    rintro e w2 ⟨rfl, hr2, hk2⟩
    rw [← H0.out]
    replace E := Lib.hid ((E.out.call hr2 hk2).state (show _ = tkA st from rfl))
    have hzz := E.out.b0.lt
    clear hr2 hk2
    go_wp2_with (with_reducible refine stop_store 47 (.tmp 3) (.tmp 6) rfl rfl ?_)
    replace E := Lib.hid (E.out.alloc 47 tz.arr)
    refine Stop.mk (wpList_storeB rfl _ _ _ rfl w2.heap.size _ rfl rfl _ E.out.b0 strTk rfl rfl (by simp [Value.oneCell']) ?_)
    intro w3 hb3 hk3
    replace E := Lib.hid ((E.out.put0 hb3 hk3).as (show _ = Tok.arr ⟨D0, 0, 0, 0⟩ from rfl))
    have HG := Lib.hid (show w.heap.size < w2.heap.size from hzz)
    obtain ⟨g, hg⟩ : ∃ g, g = w2.heap.size := ⟨_, rfl⟩
    rw [← hg] at E HG ⊢
    clear hb3 hk3 hzz hg
    go_wp2_with (fail)
    refine (c_ref19_Above p (tkA st) 1099511627776 _ E.out.rd).mono ?_
    rintro e w4 ⟨rfl, hr4, hk4⟩
    rw [← H1.out]
    replace E := Lib.hid ((E.out.call hr4 hk4).state (show _ = tkB st from rfl))
    clear hr4 hk4
    obtain ⟨q0, q1, q2, q3⟩ := tok_cells E.out.b0; have ff := fun i => E.out.b0.frozen i; have hlt1 := E.out.b0.lt; have uc := E.out.rd.1.cell (i := 1) rfl
    go_wp2_with (fail)
    clear q0 q1 q2 q3 ff hlt1 uc
    replace E := Lib.hid ((E.out.store0 1 (.int .i64 D1)).as (show _ = Tok.arr ⟨D0, D1, 0, 0⟩ from rfl))
    refine (c_ref01_RNum p (tkB st) 1099511627776 _ E.out.rd).mono ?_
    rintro e w5 ⟨rfl, hr5, hk5⟩
    rw [← H2.out]
    replace E := Lib.hid ((E.out.call hr5 hk5).state (show _ = tkC st from rfl))
    clear hr5 hk5
    obtain ⟨q0, q1, q2, q3⟩ := tok_cells E.out.b0; have ff := fun i => E.out.b0.frozen i; have hlt1 := E.out.b0.lt; have uc := E.out.rd.1.cell (i := 1) rfl
    go_wp2_with (fail)
    clear q0 q1 q2 q3 ff hlt1 uc
    replace E := Lib.hid ((E.out.store0 2 (.int .i64 D2)).as (show _ = Tok.arr ⟨D0, D1, D2, 0⟩ from rfl))
    refine (c_ref01_RNum p (tkC st) 1073741824 _ E.out.rd).mono ?_
    rintro e w6 ⟨rfl, hr6, hk6⟩
    rw [← H3.out]
    replace E := Lib.hid ((E.out.call hr6 hk6).state (show _ = SS from HSS.out.symm))
    clear hr6 hk6
    obtain ⟨q0, q1, q2, q3⟩ := tok_cells E.out.b0; have ff := fun i => E.out.b0.frozen i; have hlt1 := E.out.b0.lt; have uc := E.out.rd.1.cell (i := 1) rfl
    go_wp2_with (with_reducible refine stop_loadG 43 (.tmp 18) rfl ?_)
    clear q0 q1 q2 q3 ff hlt1 uc
    replace E := Lib.hid ((E.out.store0 3 (.int .i64 D3)).as (show _ = Tok.arr ⟨D0, D1, D2, D3⟩ from rfl))
    refine Stop.mk ?_
    have uc := E.out.rd.1.cell (i := 1) rfl
  · have HE := Lib.hid (HT1.out (by simpa using hb))
    go_wp2_with (with_reducible refine stop_load 47 (.tmp 3) rfl rfl ?_)
    refine Stop.mk (wpList_loadB rfl _ _ rfl g rfl _ E.out.b0 strTk rfl ?_)
    go_wp2_with (with_reducible refine stop_store 47 (.tmp 2) (.tmp 22) rfl rfl ?_)
    refine Stop.mk (wpList_storeB rfl _ _ _ rfl w.heap.size _ rfl rfl _ E.out.b1 strTk rfl rfl (by simp [Value.oneCell']) ?_)
    intro w11 hb11 hk11
    have hkk := E.out.own (g := w.heap.size) (Nat.le_refl _) hk11
    clear hk11
    go_wp2_with (fail)
    refine bodyPost_ret (results_B rfl rfl hb11 strTk rfl) rfl ⟨?_, hkk.2, hkk.1⟩
    rw [HE.out]
  · have HE := Lib.hid (HT2.out (by simpa using hb))
    go_wp2_with (with_reducible refine stop_store 47 (.tmp 2) (.tmp 21) rfl rfl ?_)
    refine Stop.mk (wpList_storeB rfl _ _ _ rfl w.heap.size _ rfl rfl _ E.out.b1 strTk rfl rfl (by simp [Value.oneCell']) ?_)
    intro w11 hb11 hk11
    have hkk := E.out.own (g := w.heap.size) (Nat.le_refl _) hk11
    clear hk11
    go_wp2_with (fail)
    refine bodyPost_ret (results_B rfl rfl hb11 strTk rfl) rfl ⟨?_, hkk.2, hkk.1⟩
    rw [HE.out]
end Go.Proofs.YtjhndilflcigiaaDoor
namespace Go.Proofs.YtjhndilflcigiaaDoor
open Go.RowKit

theorem EnvP.b2 {p : Option Nat} {S : Rd} {w w1 : World} {l : List (Nat × Array Value)} {g g0 g1 : Nat} {cs c0 c1 : Array Value} (h : EnvP p S w w1 ((g0, c0) :: (g1, c1) :: (g, cs) :: l)) : Blk w1 g cs := h.blks.2.2.1.1
theorem EnvP.bel {S : Rd} {w w1 : World} {l : List (Nat × Array Value)} (h : EnvP none S w w1 l) : Below w.heap.size w w1 := h.kept.below (Nat.le_refl _) (fun _ e => by cases e)
def inR (x m : Int) : Prop := 0 ≤ x ∧ x ≤ m
instance (x m : Int) : Decidable (inR x m) := by unfold inR; infer_instance
theorem tok_bad0 {t : Tok} (h : ¬ inR t.dev 5) : t.ok = false := by unfold inR at h; unfold Tok.ok; simp; omega
theorem tok_bad1 {t : Tok} (h : ¬ inR t.epoch 1099511627776) : t.ok = false := by unfold inR at h; unfold Tok.ok; simp; omega
theorem tok_bad2 {t : Tok} (h : ¬ inR t.seq 1099511627776) : t.ok = false := by unfold inR at h; unfold Tok.ok; simp; omega
theorem tok_bad3 {t : Tok} (h : ¬ inR t.cursor 1073741824) : t.ok = false := by unfold inR at h; unfold Tok.ok; simp; omega
set_option maxHeartbeats 8000000 in
set_option maxRecDepth 4000 in
theorem c_token_Check (t : Tok) (w : World) : Calls Tryd.prog 111 #[.agg t.arr] w (RetV w (.bool t.ok)) := by
  have E := Lib.hid ((EnvP.start (RdP.nilmk w)).alloc 47 t.arr)
  go_enter Tryd.func111, Tryd.ntmps111
  go_wp2_with (with_reducible refine stop_load 47 (.tmp 1) rfl rfl ?_)
  refine Stop.mk (wpList_loadB rfl _ _ rfl w.heap.size rfl _ E.out.b0 strTk rfl ?_)
  go_wp2_with (fail)
  refine (c_token_parts t _).mono ?_
  rintro e w1 ⟨rfl, hb1⟩
  replace E := Lib.hid (E.out.below hb1)
  clear hb1
  go_wp2_with (fail)
  refine (c_token_most _).mono ?_
  rintro e w2 ⟨rfl, hb2⟩
  replace E := Lib.hid (E.out.below hb2)
  clear hb2
  go_wp2_with (with_reducible refine stop_store 86 (.tmp 3) (.tmp 7) rfl rfl ?_)
  replace E := Lib.hid ((E.out.alloc 86 #[.int .i64 0, .int .i64 0, .int .i64 0, .int .i64 0]).alloc 86 #[.int .i64 0, .int .i64 0, .int .i64 0, .int .i64 0])
  have hs2 : (w2.alloc (.cells #[.int .i64 0, .int .i64 0, .int .i64 0, .int .i64 0] 86)).heap.size = w2.heap.size + 1 := by simp
  rw [hs2] at E
  refine Stop.mk (wpList_storeB rfl _ _ _ rfl w2.heap.size _ rfl rfl _ E.out.b1 str4i rfl rfl (by simp [Value.oneCell']) ?_)
  intro w3 hb3 hk3
  replace E := Lib.hid (E.out.put1 hb3 hk3)
  clear hb3 hk3 hs2
  go_wp2_with (with_reducible refine stop_store 86 (.tmp 4) (.tmp 8) rfl rfl ?_)
  refine Stop.mk (wpList_storeB rfl _ _ _ rfl (w2.heap.size + 1) _ rfl rfl _ E.out.b0 str4i rfl rfl (by simp [Value.oneCell']) ?_)
  intro w4 hb4 hk4
  replace E := Lib.hid (E.out.put0 hb4 hk4)
  clear hb4 hk4
  obtain ⟨g, hg⟩ : ∃ g, g = w2.heap.size := ⟨_, rfl⟩
  obtain ⟨g', hg'⟩ : ∃ g, g = w2.heap.size + 1 := ⟨_, rfl⟩
  go_wp2_with (fail)
  rw [← hg', ← hg] at E ⊢
  clear hg hg'
  go_loopw [5, 9] (fun _ i wr => ∃ k : Nat, k ≤ 4 ∧ i = .int .i64 k ∧ (0 < k → inR t.dev 5) ∧ (1 < k → inR t.epoch 1099511627776) ∧ (2 < k → inR t.seq 1099511627776) ∧ (3 < k → inR t.cursor 1073741824) ∧ Hid (EnvP none ⟨[], 1⟩ w wr [(g', most4), (g, t.arr), (w.heap.size, t.arr)]))
    (fun _ i _ => 4 - (intOf i).toNat)
  case atStart => exact ⟨0, by omega, rfl, fun h => absurd h (by omega), fun h => absurd h (by omega), fun h => absurd h (by omega), fun h => absurd h (by omega), E.out⟩
  case round =>
    obtain ⟨k, hk, rfl, K0, K1, K2, K3, E1⟩ := hrel
    clear E
    have hcs : k = 0 ∨ k = 1 ∨ k = 2 ∨ k = 3 ∨ k = 4 := by omega
    clear hk
    obtain ⟨q0, q1, q2, q3⟩ := tok_cells E1.out.b1
    have m0 := E1.out.b0.cell (show most4[0]? = _ from rfl)
    have m1 := E1.out.b0.cell (show most4[1]? = _ from rfl)
    have m2 := E1.out.b0.cell (show most4[2]? = _ from rfl)
    have m3 := E1.out.b0.cell (show most4[3]? = _ from rfl)
    have hlt3 := E1.out.b1.lt
    have hlt4 := E1.out.b0.lt
    rcases hcs with rfl | rfl | rfl | rfl | rfl
    · by_cases hk : inR t.dev 5
      · have d1 : decide (t.dev < 0) = false := by unfold inR at hk; simp; omega
        have d2 : decide (5 < t.dev) = false := by unfold inR at hk; simp; omega
        have HK := Lib.hid hk
        clear hk
        go_wp2_with (fail)
        refine wp_region_grow (by kernel_rfl) (by kernel_rfl) ?_
        repeat (quiet_step ((first | (fail))))
        refine wpQuiet_nil ?_
        intro W2 hb2
        have E2 := Lib.hid (E1.out.below hb2)
        clear hb2 E1 q0 q1 q2 q3 m0 m1 m2 m3 hlt3 hlt4
        go_wp2_with (fail)
        go_roundw
        case rel => refine ⟨0 + 1, by omega, rfl, fun _ => ?_, fun _ => ?_, fun _ => ?_, fun _ => ?_, E2.out⟩ <;> first | exact HK.out | exact (K0 (by omega)) | exact (K1 (by omega)) | exact (K2 (by omega)) | (exfalso; omega)
        case measure => simp [intOf]
      · have H := Lib.hid (tok_bad0 hk)
        have hcs : t.dev < 0 ∨ (0 ≤ t.dev ∧ 5 < t.dev) := by unfold inR at hk; omega
        clear hk
        rcases hcs with h1 | ⟨h1, h2⟩
        · have d1 : decide (t.dev < 0) = true := by simpa using h1
          clear h1
          go_wp2_with (fail)
          refine wp_region_grow (by kernel_rfl) (by kernel_rfl) ?_
          repeat (quiet_step ((first | (fail))))
          refine wpQuiet_nil ?_
          intro W2 hb2
          have hbw := E1.out.bel.trans (hb2.mono E1.out.size)
          go_wp2_with (fail)
          go_ret
          exact RetV.bool H.out.symm hbw
        · have d1 : decide (t.dev < 0) = false := by simpa using h1
          have d2 : decide (5 < t.dev) = true := by simpa using h2
          clear h1 h2
          go_wp2_with (fail)
          refine wp_region_grow (by kernel_rfl) (by kernel_rfl) ?_
          repeat (quiet_step ((first | (fail))))
          refine wpQuiet_nil ?_
          intro W2 hb2
          have hbw := E1.out.bel.trans (hb2.mono E1.out.size)
          go_wp2_with (fail)
          go_ret
          exact RetV.bool H.out.symm hbw
    · by_cases hk : inR t.epoch 1099511627776
      · have d1 : decide (t.epoch < 0) = false := by unfold inR at hk; simp; omega
        have d2 : decide (1099511627776 < t.epoch) = false := by unfold inR at hk; simp; omega
        have HK := Lib.hid hk
        clear hk
        go_wp2_with (fail)
        refine wp_region_grow (by kernel_rfl) (by kernel_rfl) ?_
        repeat (quiet_step ((first | (fail))))
        refine wpQuiet_nil ?_
        intro W2 hb2
        have E2 := Lib.hid (E1.out.below hb2)
        clear hb2 E1 q0 q1 q2 q3 m0 m1 m2 m3 hlt3 hlt4
        go_wp2_with (fail)
        go_roundw
        case rel => refine ⟨1 + 1, by omega, rfl, fun _ => ?_, fun _ => ?_, fun _ => ?_, fun _ => ?_, E2.out⟩ <;> first | exact HK.out | exact (K0 (by omega)) | exact (K1 (by omega)) | exact (K2 (by omega)) | (exfalso; omega)
        case measure => simp [intOf]
      · have H := Lib.hid (tok_bad1 hk)
        have hcs : t.epoch < 0 ∨ (0 ≤ t.epoch ∧ 1099511627776 < t.epoch) := by unfold inR at hk; omega
        clear hk
        rcases hcs with h1 | ⟨h1, h2⟩
        · have d1 : decide (t.epoch < 0) = true := by simpa using h1
          clear h1
          go_wp2_with (fail)
          refine wp_region_grow (by kernel_rfl) (by kernel_rfl) ?_
          repeat (quiet_step ((first | (fail))))
          refine wpQuiet_nil ?_
          intro W2 hb2
          have hbw := E1.out.bel.trans (hb2.mono E1.out.size)
          go_wp2_with (fail)
          go_ret
          exact RetV.bool H.out.symm hbw
        · have d1 : decide (t.epoch < 0) = false := by simpa using h1
          have d2 : decide (1099511627776 < t.epoch) = true := by simpa using h2
          clear h1 h2
          go_wp2_with (fail)
          refine wp_region_grow (by kernel_rfl) (by kernel_rfl) ?_
          repeat (quiet_step ((first | (fail))))
          refine wpQuiet_nil ?_
          intro W2 hb2
          have hbw := E1.out.bel.trans (hb2.mono E1.out.size)
          go_wp2_with (fail)
          go_ret
          exact RetV.bool H.out.symm hbw
    · by_cases hk : inR t.seq 1099511627776
      · have d1 : decide (t.seq < 0) = false := by unfold inR at hk; simp; omega
        have d2 : decide (1099511627776 < t.seq) = false := by unfold inR at hk; simp; omega
        have HK := Lib.hid hk
        clear hk
        go_wp2_with (fail)
        refine wp_region_grow (by kernel_rfl) (by kernel_rfl) ?_
        repeat (quiet_step ((first | (fail))))
        refine wpQuiet_nil ?_
        intro W2 hb2
        have E2 := Lib.hid (E1.out.below hb2)
        clear hb2 E1 q0 q1 q2 q3 m0 m1 m2 m3 hlt3 hlt4
        go_wp2_with (fail)
        go_roundw
        case rel => refine ⟨2 + 1, by omega, rfl, fun _ => ?_, fun _ => ?_, fun _ => ?_, fun _ => ?_, E2.out⟩ <;> first | exact HK.out | exact (K0 (by omega)) | exact (K1 (by omega)) | exact (K2 (by omega)) | (exfalso; omega)
        case measure => simp [intOf]
      · have H := Lib.hid (tok_bad2 hk)
        have hcs : t.seq < 0 ∨ (0 ≤ t.seq ∧ 1099511627776 < t.seq) := by unfold inR at hk; omega
        clear hk
        rcases hcs with h1 | ⟨h1, h2⟩
        · have d1 : decide (t.seq < 0) = true := by simpa using h1
          clear h1
          go_wp2_with (fail)
          refine wp_region_grow (by kernel_rfl) (by kernel_rfl) ?_
          repeat (quiet_step ((first | (fail))))
          refine wpQuiet_nil ?_
          intro W2 hb2
          have hbw := E1.out.bel.trans (hb2.mono E1.out.size)
          go_wp2_with (fail)
          go_ret
          exact RetV.bool H.out.symm hbw
        · have d1 : decide (t.seq < 0) = false := by simpa using h1
          have d2 : decide (1099511627776 < t.seq) = true := by simpa using h2
          clear h1 h2
          go_wp2_with (fail)
          refine wp_region_grow (by kernel_rfl) (by kernel_rfl) ?_
          repeat (quiet_step ((first | (fail))))
          refine wpQuiet_nil ?_
          intro W2 hb2
          have hbw := E1.out.bel.trans (hb2.mono E1.out.size)
          go_wp2_with (fail)
          go_ret
          exact RetV.bool H.out.symm hbw
    · by_cases hk : inR t.cursor 1073741824
      · have d1 : decide (t.cursor < 0) = false := by unfold inR at hk; simp; omega
        have d2 : decide (1073741824 < t.cursor) = false := by unfold inR at hk; simp; omega
        have HK := Lib.hid hk
        clear hk
        go_wp2_with (fail)
        refine wp_region_grow (by kernel_rfl) (by kernel_rfl) ?_
        repeat (quiet_step ((first | (fail))))
        refine wpQuiet_nil ?_
        intro W2 hb2
        have E2 := Lib.hid (E1.out.below hb2)
        clear hb2 E1 q0 q1 q2 q3 m0 m1 m2 m3 hlt3 hlt4
        go_wp2_with (fail)
        go_roundw
        case rel => refine ⟨3 + 1, by omega, rfl, fun _ => ?_, fun _ => ?_, fun _ => ?_, fun _ => ?_, E2.out⟩ <;> first | exact HK.out | exact (K0 (by omega)) | exact (K1 (by omega)) | exact (K2 (by omega)) | (exfalso; omega)
        case measure => simp [intOf]
      · have H := Lib.hid (tok_bad3 hk)
        have hcs : t.cursor < 0 ∨ (0 ≤ t.cursor ∧ 1073741824 < t.cursor) := by unfold inR at hk; omega
        clear hk
        rcases hcs with h1 | ⟨h1, h2⟩
        · have d1 : decide (t.cursor < 0) = true := by simpa using h1
          clear h1
          go_wp2_with (fail)
          refine wp_region_grow (by kernel_rfl) (by kernel_rfl) ?_
          repeat (quiet_step ((first | (fail))))
          refine wpQuiet_nil ?_
          intro W2 hb2
          have hbw := E1.out.bel.trans (hb2.mono E1.out.size)
          go_wp2_with (fail)
          go_ret
          exact RetV.bool H.out.symm hbw
        · have d1 : decide (t.cursor < 0) = false := by simpa using h1
          have d2 : decide (1073741824 < t.cursor) = true := by simpa using h2
          clear h1 h2
          go_wp2_with (fail)
          refine wp_region_grow (by kernel_rfl) (by kernel_rfl) ?_
          repeat (quiet_step ((first | (fail))))
          refine wpQuiet_nil ?_
          intro W2 hb2
          have hbw := E1.out.bel.trans (hb2.mono E1.out.size)
          go_wp2_with (fail)
          go_ret
          exact RetV.bool H.out.symm hbw
    · have r0 := K0 (by omega)
      have r1 := K1 (by omega)
      have r2 := K2 (by omega)
      have r3 := K3 (by omega)
      have H := Lib.hid (show t.ok = decide (0 < t.epoch) by
        unfold inR at r0 r1 r2 r3
        unfold Tok.ok
        rw [Bool.eq_iff_iff]
        simp only [decide_eq_true_eq]
        omega)
      obtain ⟨u0, u1, u2, u3⟩ := tok_cells E1.out.b2
      clear r0 r1 r2 r3 K0 K1 K2 K3
      go_wp2_with (fail)
      go_ret
      exact RetV.bool H.out.symm E1.out.bel
end Go.Proofs.YtjhndilflcigiaaDoor
