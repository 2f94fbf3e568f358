/-
  The walk of the statement TokenTells: it answers true, whatever the tokens and the text.
-/
import Derived.Test.YtfgjhgecmelccaaDoorTt12
import Derived.Test.YtfgjhgecmelccaaDoorRows
import Derived.WalkKit
import Derived.WalkSpells
import Derived.WalkLawsBesides
import Derived.Lib.Hide
import Derived.Deep.QuietTactic
import Derived.BigQuiet
import Derived.Maps.AppendAt
import Derived.WalkSmall
import Derived.ProofKit
import Derived.OpenShut
import Derived.JoinedCond
import Derived.Deep.Slices
import Derived.Deep.Fields
import Derived.Carry
import Derived.HandedShaped
import Derived.Shelf.Strings.Builder1
import Derived.Shelf.Strings.Builder2
import Derived.Shelf.Strings.OnBuilder
import Derived.Shelf.Small.Wraps
import Derived.Shelf.Utf8.RuneCount
import Derived.Shelf.Strconv.Itoa0
import Derived.Shelf.Strconv.Itoa1
import Derived.Shelf.LaysM
import Derived.Shelf.Strconv.Itoa2
import Derived.Shelf.Strconv.Itoa3
import Derived.Shelf.Strings.Search1
import Derived.Shelf.Strings.Search2
import Derived.Shelf.Strings.Search3
import Derived.Shelf.Strings.Count
import Derived.Shelf.Strings.Shaped
import Derived.Shelf.Strings.Split
import Derived.Shelf.Strings.SplitShaped
import Derived.Shelf.Unicode.Decode
import Derived.Shelf.Strings.RuneCount
import Derived.Shelf.Strings.Explode
import Derived.Shelf.Unicode.DecodeSlow
import Derived.Test.YtfgjhgecmelccaaDoorProg
import Derived.Deep.AppendSrc
import Derived.Lib.AppendStr
import Derived.Laws.BytesArg
import Derived.Lib.AppendIntMem
import Derived.Lib.ItoaLen
import Derived.Lib.TrailingZeros
import Derived.Lib.SplitLaws
import Derived.Lib.ItoaNum
import Derived.Shelf.Strings.PiecesUse
import Derived.Shelf.Spec.TrailingZeros
import Derived.RangeFuncNested
import Derived.RangeFuncBound
import Derived.RangeFuncCalls
import Derived.RangeFuncLeaves
import Derived.Shelf.Abstract
import Derived.Shelf.RegionOpen
import Derived.OwnWalkIn
import Derived.TacticsInMore
import Derived.LoopNIn
import Derived.LoopIn
import Derived.Test.YtfgjhgecmelccaaDoorTie
import Derived.Lib.LaidTab
import Derived.LaidMore
import Derived.Lay
import Derived.Stop.LaidErr
import Derived.SevenTiedAt
import Derived.Test.YtfgjhgecmelccaaDoorCards
import Derived.Deep.CutBlock
import Derived.Deep.DeepCutAuto
import Derived.Laws.Tables
import Derived.Laws.Rows
import Derived.Laws.CopyOwn
import Derived.Outline
import Derived.IntWalk
import Derived.Lib.EndianBits
import Derived.StillTail
import Derived.Laws.IdiomStrings
import Derived.ChangeKeysEq
import Derived.Laws.StructEq
namespace Go.Proofs.YtfgjhgecmelccaaDoor
open Go.RowKit

theorem wpList_strbytesG {P : Program} {w : World} {ops : Array Oper} {rest : List Oper} {o : Oper} {a : Act} {Q : Exit → Act → World → Prop} (hw : Region.wanted o (yielded ops a.tmps) = true) (src dst : TypeId) (x : Operand) (ho : o.op = .convert src dst x)
    {e : TypeId} (hs : P.underlying src = some .string) (hd : P.underlying dst = some (.slice e)) (he : P.underlying e = some (.int .u8)) (l : List UInt8) (hx : a.eval x = .string (str l)) (hl : l.length ≤ 4294967296)
    (h : ∀ A c w', Laid w w' A c l → wpList P ops Q rest (a.put o.dst (.slice A l.length c)) w') : wpList P ops Q (o :: rest) a w := by
  refine wpList_g hw fun K hK => ?_
  obtain ⟨A, c, w', hrun, hl'⟩ := run_str_bytes (P := P) w hs hd he l hl
  unfold Oper.wp execOp
  simp only [ho, hx, hrun, Sem.run_bind, Sem.run_pure, Result.andThen_ok]
  exact hK _ _ (h A c w' hl')
theorem stop_convG {P : Program} {w : World} {ops : Array Oper} {rest : List Oper} {o : Oper} {a : Act} {Q : Exit → Act → World → Prop} (src dst : TypeId) (x : Operand) (_ : o.op = .convert src dst x) (h : Stop (wpList P ops Q (o :: rest) a w)) : wpList P ops Q (o :: rest) a w := h
set_option maxHeartbeats 1000000 in
set_option maxRecDepth 4000 in
theorem law26_TokenTells_long (a b : Tok) (s : List UInt8) (w : World) (hs : 500 < s.length) (hP : PowTab w) : Calls Tryd.prog 7 #[.agg a.arr, .agg b.arr, .string (str s)] w (RetV w (.bool true)) := by
  have d1 : decide ((500 : Int) < (s.length : Int)) = true := by simp; omega
  have B0 := Lib.hid (At2.new w 72 72 a.arr b.arr)
  have HP := Lib.hid hP
  clear hs hP
  go_enter Tryd.func7, Tryd.ntmps7
  go_wp2_with (fail)
  refine (c_law26_awake _ (HP.out.below B0.out.1)).mono ?_
  rintro e w1 ⟨rfl, hb1⟩
  go_wp2_with (fail)
  go_ret
  exact RetV.bool rfl (B0.out.1.trans (hb1.mono B0.out.1.size))
set_option maxHeartbeats 8000000 in
set_option maxRecDepth 10000 in
theorem law26_TokenTells_in (a b : Tok) (s : List UInt8) (w : World) (hs : s.length ≤ 500) (hP : PowTab w) (hM : MaxV w) : Calls Tryd.prog 7 #[.agg a.arr, .agg b.arr, .string (str s)] w (RetV w (.bool true)) := by
  have d1 : decide ((500 : Int) < (s.length : Int)) = false := by simp; omega
  have E := Lib.hid (((EnvP.start (RdP.nilmk w)).alloc 72 a.arr).alloc 72 b.arr)
  rw [World.size_alloc] at E
  have HP := Lib.hid (fun w' (hb : Below w.heap.size w w') => hP.below hb)
  have CP := Lib.hid (fun w' (hb : Below w.heap.size w w') => c_token_Parse s (by omega) w' (hM.below hb))
  have CQ := Lib.hid (fun w' => c_ref26_Parse s (by omega) w')
  obtain ⟨x, hx⟩ : ∃ x, tkV s = x := ⟨_, rfl⟩
  obtain ⟨o, ho⟩ : ∃ o, tkO s = o := ⟨_, rfl⟩
  rw [hx, ho] at CP CQ
  have CC := Lib.hid (c_token_Check a)
  have CD := Lib.hid (c_ref26_Check a)
  have CW := Lib.hid (c_token_Whole a)
  have CG := Lib.hid (c_token_Goes a b)
  have CH := Lib.hid (c_ref26_Goes a b)
  have CS := Lib.hid (fun w' (hb : Below w.heap.size w w') => c_token_Show a w' (hP.below hb))
  have CT := Lib.hid (c_ref26_Show a)
  have CB := Lib.hid (c_ref26_Put a)
  have hB : (tokB a).length ≤ 28 := by
    unfold tokB
    split
    · have := (num_len a.dev).2; have := (num_len a.epoch).2; have := (num_len a.seq).2; have := (num_len a.cursor).2
      simp only [List.length_append]; omega
    · simp
  have CA := Lib.hid (fun (A : Option Addr) (c : Nat) w' (h : InB w' A c s) => c_token_Put s A c a w' h (by omega))
  obtain ⟨g, hg⟩ : ∃ g, a.goes b = g := ⟨_, rfl⟩
  rw [hg] at CG CH
  obtain ⟨t, ht⟩ : ∃ t, tokT a = t := ⟨_, rfl⟩
  rw [ht] at CS CT
  obtain ⟨y, hy⟩ : ∃ y, tokB a = y := ⟨_, rfl⟩
  rw [hy] at CB CA hB
  clear hx ho hg ht hy hP hM
  have kg : (g == g) = true := by simp
  have kt : (t == t) = true := by simp
  have ko : (o == o) = true := by simp
  obtain ⟨z, hz⟩ : ∃ z, s ++ y = z := ⟨_, rfl⟩
  rw [hz] at CA
  have hzl : z.length ≤ 1000 := by rw [← hz, List.length_append]; omega
  have kz : (z == s ++ y) = true := by rw [hz]; simp
  have hbd : ¬ 9223372036854775807 < s.length + y.length := by omega
  clear hz
  cases hok : a.ok
  · replace CC := Lib.hid (by have := CC.out; rw [hok] at this; exact this)
    replace CD := Lib.hid (by have := CD.out; rw [hok] at this; exact this)
    replace CW := Lib.hid (by have := CW.out; unfold Tok.whole at this; rw [hok, Bool.false_and] at this; exact this)
    clear hok
    go_enter Tryd.func7, Tryd.ntmps7
    go_wp2_with (fail)
    refine (CP.out _ E.out.bel).mono ?_
    rintro e w1 ⟨rfl, hb1⟩
    replace E := Lib.hid (E.out.below hb1)
    clear hb1
    go_wp2_with (with_reducible refine stop_store 72 (.tmp 7) (.tmp 19) rfl rfl ?_)
    replace E := Lib.hid (E.out.alloc 72 tz.arr)
    refine Stop.mk (wpList_storeB rfl _ _ _ rfl w1.heap.size _ rfl rfl _ E.out.b0 strTk rfl rfl (by simp [Value.oneCell']) ?_)
    intro w2 hb2 hk2
    replace E := Lib.hid (E.out.put0 hb2 hk2)
    obtain ⟨g1, hg1⟩ : ∃ g, g = w1.heap.size := ⟨_, rfl⟩
    rw [← hg1] at E ⊢
    clear hb2 hk2 hg1
    go_wp2_with (fail)
    refine (CQ.out _).mono ?_
    rintro e w1 ⟨rfl, hb1⟩
    replace E := Lib.hid (E.out.below hb1)
    clear hb1
    go_wp2_with (with_reducible refine stop_store 72 (.tmp 9) (.tmp 24) rfl rfl ?_)
    replace E := Lib.hid (E.out.alloc 72 tz.arr)
    refine Stop.mk (wpList_storeB rfl _ _ _ rfl w1.heap.size _ rfl rfl _ E.out.b0 strTk rfl rfl (by simp [Value.oneCell']) ?_)
    intro w2 hb2 hk2
    replace E := Lib.hid (E.out.put0 hb2 hk2)
    obtain ⟨g2, hg2⟩ : ∃ g, g = w1.heap.size := ⟨_, rfl⟩
    rw [← hg2] at E ⊢
    clear hb2 hk2 hg2
    obtain ⟨p0, p1, p2, p3⟩ := tok_cells E.out.blks.2.2.2.1.1; obtain ⟨q0, q1, q2, q3⟩ := tok_cells E.out.blks.2.2.1.1
    have hlt := E.out.blks.2.2.2.1.1.lt
    go_wp2_with (with_reducible refine stop_store 72 (.tmp 11) (.tmp 32) rfl rfl ?_)
    replace E := Lib.hid (E.out.alloc 72 tz.arr)
    refine Stop.mk (wpList_storeB rfl _ _ _ rfl w2.heap.size _ rfl rfl _ E.out.b0 strTk rfl rfl (by simp [Value.oneCell']) ?_)
    intro w3 hb3 hk3
    replace E := Lib.hid ((E.out.put0 hb3 hk3).as (show _ = Tok.arr ⟨a.dev, a.epoch, a.seq, 0⟩ from rfl))
    obtain ⟨g3, hg3⟩ : ∃ g, g = w2.heap.size := ⟨_, rfl⟩
    rw [← hg3] at E ⊢
    clear hb3 hk3 hg3 p0 p1 p2 p3 q0 q1 q2 q3 hlt
    obtain ⟨p0, p1, p2, p3⟩ := tok_cells E.out.blks.2.2.2.2.1.1; obtain ⟨q0, q1, q2, q3⟩ := tok_cells E.out.blks.2.2.2.1.1
    go_wp2_with (fail)
    have EB := Lib.hid E.out.bel
    have BA := Lib.hid E.out.blks.2.2.2.2.1.1
    have BB := Lib.hid E.out.blks.2.2.2.1.1
    have BX := Lib.hid E.out.blks.2.2.1.1
    have BY := Lib.hid E.out.blks.2.1.1
    have BF := Lib.hid E.out.b0
    clear E p0 p1 p2 p3 q0 q1 q2 q3
    refine wp_region_rel [Sp.eq (.agg a.arr), Sp.eq (.bool false), Sp.eq (.agg a.arr), Sp.eq (.bool false), Sp.eq (.bool true), Sp.eq (.bool true), Sp.eq (.pointer (some ⟨w.heap.size, 0, none⟩)), Sp.eq (.int .i64 a.dev), Sp.eq (.pointer (some ⟨w.heap.size, 1, none⟩)), Sp.eq (.int .i64 a.epoch), Sp.eq (.pointer (some ⟨w.heap.size, 2, none⟩)), Sp.eq (.int .i64 a.seq), Sp.eq (.agg (Tok.arr ⟨a.dev, a.epoch, a.seq, 0⟩)), Sp.eq (.agg (Tok.arr ⟨a.dev, a.epoch, a.seq, 0⟩)), Sp.eq (.bool true), Sp.eq (.bool true), Sp.eq (.bool true), Sp.eq (.agg a.arr), Sp.eq (.bool false), Sp.eq (.agg a.arr), Sp.eq (.bool false), Sp.eq (.bool false), Sp.eq (.tuple #[]), Sp.eq (.tuple #[]), Sp.eq (.tuple #[]), Sp.eq (.bool false), Sp.eq (.bool true), Sp.eq (.bool true), Sp.eq (.bool true), Sp.eq (.agg a.arr), Sp.eq (.agg b.arr), Sp.eq (.bool g), Sp.eq (.agg a.arr), Sp.eq (.agg b.arr), Sp.eq (.bool g), Sp.eq (.bool true), Sp.eq (.bool true), Sp.eq (.bool true), Sp.eq (.string (str s)), Sp.slice 1 bc s, Sp.eq (.agg a.arr), Sp.slice 1 bc z, Sp.eq (.string (str z)), Sp.eq (.string (str s)), Sp.eq (.agg a.arr), Sp.eq (.string (str y)), Sp.eq (.string (str (s ++ y))), Sp.eq (.bool true), Sp.eq (.bool true), Sp.eq (.bool true), Sp.eq (.agg a.arr), Sp.eq (.string (str t)), Sp.eq (.agg a.arr), Sp.eq (.string (str t)), Sp.eq (.bool true), Sp.eq (.bool true), Sp.eq (.bool true), Sp.eq (.agg x.arr), Sp.eq (.agg x.arr), Sp.eq (.bool true), Sp.eq (.bool true), Sp.eq (.bool true), Sp.eq (.bool o), Sp.eq (.bool o), Sp.eq (.bool true), Sp.eq (.bool true), Sp.eq (.bool true), Sp.eq (.bool true), Sp.eq (.bool true), Sp.eq (.bool true)] 102 (by kernel_rfl) (by kernel_rfl) rfl rfl ?_ ?_
    · refine relgoals_genN fun fr hfr => ?_
      have HFR := Lib.hid hfr
      clear hfr
      refine ⟨?_, ?_, ?_, ?_, ?_, ?_, ?_, ?_, ?_, ?_, ?_, ?_, ?_, ?_, ?_, ?_, ?_, ?_, ?_, ?_, ?_, ?_, ?_, ?_, ?_, ?_, ?_, ?_, ?_, ?_, ?_, ?_, ?_, ?_, ?_, ?_, ?_, ?_, ?_, ?_, ?_, ?_, ?_, ?_, ?_, ?_, ?_, ?_, ?_, ?_, ?_, ?_, ?_, ?_, ?_, ?_, ?_, ?_, ?_, ?_, ?_, ?_, ?_, ?_, ?_, ?_, ?_, ?_, ?_, ?_, trivial⟩
      all_goals (intro u W2 hb2 hd; simp [Deps, Region.binds, Sp.slice_holds, Sp.eq_holds] at hd; simp only [putDeps, dstOf, Region.binds])
      case refine_1 =>
        rw [HFR.out]
        go_wp2_with (with_reducible refine stop_loadG 72 _ rfl ?_)
        refine Stop.mk (wpList_loadAtG (by simp [Region.wanted]) _ _ rfl w.heap.size 0 rfl a.arr ((BA.out.below hb2 BA.out.lt).all) strTk (rfl) ?_)
        go_wp2_with (fail); exact RelEnd.mk rfl (Below.refl _ _) rfl
      case refine_2 =>
        rw [HFR.out]
        go_wp2_with (go_at_call 33; refine (CC.out _).mono ?_; rintro e3 W3 ⟨rfl, hb3⟩)
        exact RelEnd.mk rfl hb3 rfl
      case refine_3 =>
        rw [HFR.out]
        go_wp2_with (with_reducible refine stop_loadG 72 _ rfl ?_)
        refine Stop.mk (wpList_loadAtG (by simp [Region.wanted]) _ _ rfl w.heap.size 0 rfl a.arr ((BA.out.below hb2 BA.out.lt).all) strTk (rfl) ?_)
        go_wp2_with (fail); exact RelEnd.mk rfl (Below.refl _ _) rfl
      case refine_4 =>
        rw [HFR.out]
        go_wp2_with (go_at_call 34; refine (CD.out _).mono ?_; rintro e3 W3 ⟨rfl, hb3⟩)
        exact RelEnd.mk rfl hb3 rfl
      case refine_5 =>
        rw [HFR.out]
        go_wp2_with (fail); exact RelEnd.mk rfl (Below.refl _ _) rfl
      case refine_6 =>
        rw [HFR.out]
        go_wp2_with (fail); exact RelEnd.mk rfl (Below.refl _ _) rfl
      case refine_7 =>
        rw [HFR.out]
        go_wp2_with (fail); exact RelEnd.mk rfl (Below.refl _ _) rfl
      case refine_8 =>
        rw [HFR.out]
        have q : World.cell? W2 ⟨w.heap.size, 0, none⟩ = some (.int .i64 a.dev) := (BA.out.below hb2 BA.out.lt).cell rfl
        go_wp2_with (fail); exact RelEnd.mk rfl (Below.refl _ _) rfl
      case refine_9 =>
        rw [HFR.out]
        go_wp2_with (fail); exact RelEnd.mk rfl (Below.refl _ _) rfl
      case refine_10 =>
        rw [HFR.out]
        have q : World.cell? W2 ⟨w.heap.size, 1, none⟩ = some (.int .i64 a.epoch) := (BA.out.below hb2 BA.out.lt).cell rfl
        go_wp2_with (fail); exact RelEnd.mk rfl (Below.refl _ _) rfl
      case refine_11 =>
        rw [HFR.out]
        go_wp2_with (fail); exact RelEnd.mk rfl (Below.refl _ _) rfl
      case refine_12 =>
        rw [HFR.out]
        have q : World.cell? W2 ⟨w.heap.size, 2, none⟩ = some (.int .i64 a.seq) := (BA.out.below hb2 BA.out.lt).cell rfl
        go_wp2_with (fail); exact RelEnd.mk rfl (Below.refl _ _) rfl
      case refine_13 =>
        rw [HFR.out]
        go_wp2_with (go_at_call 35; refine (c_token_First a.dev a.epoch a.seq _).mono ?_; rintro e3 W3 ⟨rfl, hb3⟩)
        exact RelEnd.mk rfl hb3 rfl
      case refine_14 =>
        rw [HFR.out]
        go_wp2_with (with_reducible refine stop_loadG 72 _ rfl ?_)
        refine Stop.mk (wpList_loadAtG (by simp [Region.wanted, yielded]) _ _ rfl g3 0 rfl (Tok.arr ⟨a.dev, a.epoch, a.seq, 0⟩) ((BF.out.below hb2 BF.out.lt).all) strTk (rfl) ?_)
        go_wp2_with (fail); exact RelEnd.mk rfl (Below.refl _ _) rfl
      case refine_15 =>
        rw [HFR.out]
        (try (obtain ⟨d0, hd⟩ := hd; (try (obtain ⟨d1, hd⟩ := hd; (try (obtain ⟨d2, hd⟩ := hd))))))
        go_wp2_with (with_reducible refine stop_bin .eql 72 (.tmp 45) (.tmp 46) 72 rfl ?_)
        refine Stop.mk (wpList_eqlS (by simp [Region.wanted, yielded, *]) _ _ _ _ rfl (Tok.arr ⟨a.dev, a.epoch, a.seq, 0⟩) (Tok.arr ⟨a.dev, a.epoch, a.seq, 0⟩) (by first | rfl | assumption | (simp [*]; done)) (by first | rfl | assumption | (simp [*]; done)) gT true ((eq_tok 9998 ⟨a.dev, a.epoch, a.seq, 0⟩ ⟨a.dev, a.epoch, a.seq, 0⟩ _).trans (by simp)) ?_)
        exact RelEnd.mk rfl (Below.refl _ _) rfl
      case refine_16 =>
        rw [HFR.out]
        go_wp2_with (fail); exact RelEnd.mk rfl (Below.refl _ _) rfl
      case refine_17 =>
        rw [HFR.out]
        go_wp2_with (fail); exact RelEnd.mk rfl (Below.refl _ _) rfl
      case refine_18 =>
        rw [HFR.out]
        go_wp2_with (with_reducible refine stop_loadG 72 _ rfl ?_)
        refine Stop.mk (wpList_loadAtG (by simp [Region.wanted, yielded]) _ _ rfl w.heap.size 0 rfl a.arr ((BA.out.below hb2 BA.out.lt).all) strTk (rfl) ?_)
        go_wp2_with (fail); exact RelEnd.mk rfl (Below.refl _ _) rfl
      case refine_19 =>
        rw [HFR.out]
        go_wp2_with (go_at_call 36; refine (CW.out _).mono ?_; rintro e3 W3 ⟨rfl, hb3⟩)
        exact RelEnd.mk rfl hb3 rfl
      case refine_20 =>
        rw [HFR.out]
        go_wp2_with (with_reducible refine stop_loadG 72 _ rfl ?_)
        refine Stop.mk (wpList_loadAtG (by simp [Region.wanted, yielded]) _ _ rfl w.heap.size 0 rfl a.arr ((BA.out.below hb2 BA.out.lt).all) strTk (rfl) ?_)
        go_wp2_with (fail); exact RelEnd.mk rfl (Below.refl _ _) rfl
      case refine_21 =>
        rw [HFR.out]
        go_wp2_with (go_at_call 34; refine (CD.out _).mono ?_; rintro e3 W3 ⟨rfl, hb3⟩)
        exact RelEnd.mk rfl hb3 rfl
      case refine_22 =>
        rw [HFR.out]
        go_wp2_with (fail); exact RelEnd.mk rfl (Below.refl _ _) rfl
      case refine_23 =>
        rw [HFR.out]
        go_wp2_with (fail); exact RelEnd.mk rfl (Below.refl _ _) rfl
      case refine_24 =>
        rw [HFR.out]
        go_wp2_with (fail); exact RelEnd.mk rfl (Below.refl _ _) rfl
      case refine_25 =>
        rw [HFR.out]
        go_wp2_with (fail); exact RelEnd.mk rfl (Below.refl _ _) rfl
      case refine_26 =>
        rw [HFR.out]
        go_wp2_with (fail); exact RelEnd.mk rfl (Below.refl _ _) rfl
      case refine_27 =>
        rw [HFR.out]
        go_wp2_with (fail); exact RelEnd.mk rfl (Below.refl _ _) rfl
      case refine_28 =>
        rw [HFR.out]
        go_wp2_with (fail); exact RelEnd.mk rfl (Below.refl _ _) rfl
      case refine_29 =>
        rw [HFR.out]
        go_wp2_with (fail); exact RelEnd.mk rfl (Below.refl _ _) rfl
      case refine_30 =>
        rw [HFR.out]
        go_wp2_with (with_reducible refine stop_loadG 72 _ rfl ?_)
        refine Stop.mk (wpList_loadAtG (by simp [Region.wanted, yielded]) _ _ rfl w.heap.size 0 rfl a.arr ((BA.out.below hb2 BA.out.lt).all) strTk (rfl) ?_)
        go_wp2_with (fail); exact RelEnd.mk rfl (Below.refl _ _) rfl
      case refine_31 =>
        rw [HFR.out]
        go_wp2_with (with_reducible refine stop_loadG 72 _ rfl ?_)
        refine Stop.mk (wpList_loadAtG (by simp [Region.wanted, yielded]) _ _ rfl (w.heap.size + 1) 0 rfl b.arr ((BB.out.below hb2 BB.out.lt).all) strTk (rfl) ?_)
        go_wp2_with (fail); exact RelEnd.mk rfl (Below.refl _ _) rfl
      case refine_32 =>
        rw [HFR.out]
        go_wp2_with (go_at_call 37; refine (CG.out _).mono ?_; rintro e3 W3 ⟨rfl, hb3⟩)
        exact RelEnd.mk rfl hb3 rfl
      case refine_33 =>
        rw [HFR.out]
        go_wp2_with (with_reducible refine stop_loadG 72 _ rfl ?_)
        refine Stop.mk (wpList_loadAtG (by simp [Region.wanted, yielded]) _ _ rfl w.heap.size 0 rfl a.arr ((BA.out.below hb2 BA.out.lt).all) strTk (rfl) ?_)
        go_wp2_with (fail); exact RelEnd.mk rfl (Below.refl _ _) rfl
      case refine_34 =>
        rw [HFR.out]
        go_wp2_with (with_reducible refine stop_loadG 72 _ rfl ?_)
        refine Stop.mk (wpList_loadAtG (by simp [Region.wanted, yielded]) _ _ rfl (w.heap.size + 1) 0 rfl b.arr ((BB.out.below hb2 BB.out.lt).all) strTk (rfl) ?_)
        go_wp2_with (fail); exact RelEnd.mk rfl (Below.refl _ _) rfl
      case refine_35 =>
        rw [HFR.out]
        go_wp2_with (go_at_call 38; refine (CH.out _).mono ?_; rintro e3 W3 ⟨rfl, hb3⟩)
        exact RelEnd.mk rfl hb3 rfl
      case refine_36 =>
        rw [HFR.out]
        go_wp2_with (fail); exact RelEnd.mk rfl (Below.refl _ _) rfl
      case refine_37 =>
        rw [HFR.out]
        go_wp2_with (fail); exact RelEnd.mk rfl (Below.refl _ _) rfl
      case refine_38 =>
        rw [HFR.out]
        go_wp2_with (fail); exact RelEnd.mk rfl (Below.refl _ _) rfl
      case refine_39 =>
        rw [HFR.out]
        go_wp2_with (fail); exact RelEnd.mk rfl (Below.refl _ _) rfl
      case refine_40 =>
        rw [HFR.out]
        go_wp2_with (with_reducible refine stop_convG 9 50 (.tmp 71) rfl ?_)
        refine Stop.mk (wpList_strbytesG (by simp [Region.wanted, yielded, *]) _ _ (.tmp 71) rfl Tryd.underlying9 Tryd.underlying50 Tryd.underlying5 s (by first | rfl | (simp [*]; done)) (by omega) ?_)
        intro A5 c5 w5 hl5
        exact RelEnd.mk rfl hl5.below ⟨A5, c5, rfl, hl5.reads⟩
      case refine_41 =>
        rw [HFR.out]
        go_wp2_with (with_reducible refine stop_loadG 72 _ rfl ?_)
        refine Stop.mk (wpList_loadAtG (by simp [Region.wanted, yielded]) _ _ rfl w.heap.size 0 rfl a.arr ((BA.out.below hb2 BA.out.lt).all) strTk (rfl) ?_)
        go_wp2_with (fail); exact RelEnd.mk rfl (Below.refl _ _) rfl
      case refine_42 =>
        rw [HFR.out]
        obtain ⟨⟨A2, c2, d0, d1⟩, d2⟩ := hd
        go_wp2_with (go_at_call 39; refine (CA.out A2 c2 _ d1).mono ?_; rintro e3 W3 ⟨v3, rfl, own3, hb3⟩)
        exact RelEnd.mk rfl hb3 (In.of_own bc_len own3 (by omega))
      case refine_43 =>
        rw [HFR.out]
        obtain ⟨⟨A2, c2, d0, d1⟩, d2⟩ := hd
        have kc := conv_str (P := Tryd.prog) W2 Tryd.underlying50 Tryd.underlying5 Tryd.underlying9 d1
        clear d1
        go_wp2_with (fail); exact RelEnd.mk rfl (Below.refl _ _) rfl
      case refine_44 =>
        rw [HFR.out]
        go_wp2_with (fail); exact RelEnd.mk rfl (Below.refl _ _) rfl
      case refine_45 =>
        rw [HFR.out]
        go_wp2_with (with_reducible refine stop_loadG 72 _ rfl ?_)
        refine Stop.mk (wpList_loadAtG (by simp [Region.wanted, yielded]) _ _ rfl w.heap.size 0 rfl a.arr ((BA.out.below hb2 BA.out.lt).all) strTk (rfl) ?_)
        go_wp2_with (fail); exact RelEnd.mk rfl (Below.refl _ _) rfl
      case refine_46 =>
        rw [HFR.out]
        go_wp2_with (go_at_call 40; refine (CB.out _).mono ?_; rintro e3 W3 ⟨rfl, hb3⟩)
        exact RelEnd.mk rfl hb3 rfl
      case refine_47 =>
        rw [HFR.out]
        go_wp2_with (fail); exact RelEnd.mk rfl (Below.refl _ _) rfl
      case refine_48 =>
        rw [HFR.out]
        go_wp2_with (fail); exact RelEnd.mk rfl (Below.refl _ _) rfl
      case refine_49 =>
        rw [HFR.out]
        go_wp2_with (fail); exact RelEnd.mk rfl (Below.refl _ _) rfl
      case refine_50 =>
        rw [HFR.out]
        go_wp2_with (fail); exact RelEnd.mk rfl (Below.refl _ _) rfl
      case refine_51 =>
        rw [HFR.out]
        go_wp2_with (with_reducible refine stop_loadG 72 _ rfl ?_)
        refine Stop.mk (wpList_loadAtG (by simp [Region.wanted, yielded]) _ _ rfl w.heap.size 0 rfl a.arr ((BA.out.below hb2 BA.out.lt).all) strTk (rfl) ?_)
        go_wp2_with (fail); exact RelEnd.mk rfl (Below.refl _ _) rfl
      case refine_52 =>
        rw [HFR.out]
        go_wp2_with (go_at_call 41; refine (CS.out _ (EB.out.trans (hb2.mono EB.out.size))).mono ?_; rintro e3 W3 ⟨rfl, hb3⟩)
        exact RelEnd.mk rfl hb3 rfl
      case refine_53 =>
        rw [HFR.out]
        go_wp2_with (with_reducible refine stop_loadG 72 _ rfl ?_)
        refine Stop.mk (wpList_loadAtG (by simp [Region.wanted, yielded]) _ _ rfl w.heap.size 0 rfl a.arr ((BA.out.below hb2 BA.out.lt).all) strTk (rfl) ?_)
        go_wp2_with (fail); exact RelEnd.mk rfl (Below.refl _ _) rfl
      case refine_54 =>
        rw [HFR.out]
        go_wp2_with (go_at_call 42; refine (CT.out _).mono ?_; rintro e3 W3 ⟨rfl, hb3⟩)
        exact RelEnd.mk rfl hb3 rfl
      case refine_55 =>
        rw [HFR.out]
        go_wp2_with (fail); exact RelEnd.mk rfl (Below.refl _ _) rfl
      case refine_56 =>
        rw [HFR.out]
        go_wp2_with (fail); exact RelEnd.mk rfl (Below.refl _ _) rfl
      case refine_57 =>
        rw [HFR.out]
        go_wp2_with (fail); exact RelEnd.mk rfl (Below.refl _ _) rfl
      case refine_58 =>
        rw [HFR.out]
        go_wp2_with (with_reducible refine stop_loadG 72 _ rfl ?_)
        refine Stop.mk (wpList_loadAtG (by simp [Region.wanted, yielded]) _ _ rfl g1 0 rfl x.arr ((BX.out.below hb2 BX.out.lt).all) strTk (rfl) ?_)
        go_wp2_with (fail); exact RelEnd.mk rfl (Below.refl _ _) rfl
      case refine_59 =>
        rw [HFR.out]
        go_wp2_with (with_reducible refine stop_loadG 72 _ rfl ?_)
        refine Stop.mk (wpList_loadAtG (by simp [Region.wanted, yielded]) _ _ rfl g2 0 rfl x.arr ((BY.out.below hb2 BY.out.lt).all) strTk (rfl) ?_)
        go_wp2_with (fail); exact RelEnd.mk rfl (Below.refl _ _) rfl
      case refine_60 =>
        rw [HFR.out]
        (try (obtain ⟨d0, hd⟩ := hd; (try (obtain ⟨d1, hd⟩ := hd; (try (obtain ⟨d2, hd⟩ := hd))))))
        go_wp2_with (with_reducible refine stop_bin .eql 72 (.tmp 90) (.tmp 91) 72 rfl ?_)
        refine Stop.mk (wpList_eqlS (by simp [Region.wanted, yielded, *]) _ _ _ _ rfl x.arr x.arr (by first | rfl | assumption | (simp [*]; done)) (by first | rfl | assumption | (simp [*]; done)) gT true ((eq_tok 9998 x x _).trans (by simp)) ?_)
        exact RelEnd.mk rfl (Below.refl _ _) rfl
      case refine_61 =>
        rw [HFR.out]
        go_wp2_with (fail); exact RelEnd.mk rfl (Below.refl _ _) rfl
      case refine_62 =>
        rw [HFR.out]
        go_wp2_with (fail); exact RelEnd.mk rfl (Below.refl _ _) rfl
      case refine_63 =>
        rw [HFR.out]
        go_wp2_with (fail); exact RelEnd.mk rfl (Below.refl _ _) rfl
      case refine_64 =>
        rw [HFR.out]
        go_wp2_with (fail); exact RelEnd.mk rfl (Below.refl _ _) rfl
      case refine_65 =>
        rw [HFR.out]
        go_wp2_with (fail); exact RelEnd.mk rfl (Below.refl _ _) rfl
      case refine_66 =>
        rw [HFR.out]
        go_wp2_with (fail); exact RelEnd.mk rfl (Below.refl _ _) rfl
      case refine_67 =>
        rw [HFR.out]
        go_wp2_with (fail); exact RelEnd.mk rfl (Below.refl _ _) rfl
      case refine_68 =>
        rw [HFR.out]
        go_wp2_with (go_at_call 30; refine (c_law26_awake _ (HP.out _ (EB.out.trans (hb2.mono EB.out.size)))).mono ?_; rintro e3 W3 ⟨rfl, hb3⟩)
        exact RelEnd.mk rfl hb3 rfl
      case refine_69 =>
        rw [HFR.out]
        go_wp2_with (fail); exact RelEnd.mk rfl (Below.refl _ _) rfl
      case refine_70 =>
        rw [HFR.out]
        go_wp2_with (fail); exact RelEnd.mk rfl (Below.refl _ _) rfl
    · intro u W2 hb2 hold
      simp only [RelHold, Sp.eq_holds, Sp.slice_holds, Nat.reduceAdd] at hold
      obtain ⟨-, -, -, -, -, -, -, -, -, -, -, -, -, -, -, -, -, -, -, -, -, -, -, -, -, -, -, -, -, -, -, -, -, -, -, -, -, -, -, -, -, -, -, -, -, -, -, -, -, -, -, -, -, -, -, -, -, -, -, -, -, -, -, -, -, -, -, -, -, hE, -⟩ := hold
      simp only [putAll, Act.put, Nat.reduceAdd, List.setIfInBounds_toArray, List.set_cons_zero, List.set_cons_succ]
      rw [hE]
      go_wp2_with (fail)
      go_ret
      exact RetV.bool rfl (EB.out.trans (hb2.mono EB.out.size))
  · replace CC := Lib.hid (by have := CC.out; rw [hok] at this; exact this)
    replace CD := Lib.hid (by have := CD.out; rw [hok] at this; exact this)
    by_cases hc : a.cursor = 1073741824
    · have kcu : (a.cursor == 1073741824) = true := by simpa using hc
      replace CW := Lib.hid (by have := CW.out; unfold Tok.whole at this; rw [hok, decide_eq_true hc, Bool.and_true] at this; exact this)
      clear hok hc
      go_enter Tryd.func7, Tryd.ntmps7
      go_wp2_with (fail)
      refine (CP.out _ E.out.bel).mono ?_
      rintro e w1 ⟨rfl, hb1⟩
      replace E := Lib.hid (E.out.below hb1)
      clear hb1
      go_wp2_with (with_reducible refine stop_store 72 (.tmp 7) (.tmp 19) rfl rfl ?_)
      replace E := Lib.hid (E.out.alloc 72 tz.arr)
      refine Stop.mk (wpList_storeB rfl _ _ _ rfl w1.heap.size _ rfl rfl _ E.out.b0 strTk rfl rfl (by simp [Value.oneCell']) ?_)
      intro w2 hb2 hk2
      replace E := Lib.hid (E.out.put0 hb2 hk2)
      obtain ⟨g1, hg1⟩ : ∃ g, g = w1.heap.size := ⟨_, rfl⟩
      rw [← hg1] at E ⊢
      clear hb2 hk2 hg1
      go_wp2_with (fail)
      refine (CQ.out _).mono ?_
      rintro e w1 ⟨rfl, hb1⟩
      replace E := Lib.hid (E.out.below hb1)
      clear hb1
      go_wp2_with (with_reducible refine stop_store 72 (.tmp 9) (.tmp 24) rfl rfl ?_)
      replace E := Lib.hid (E.out.alloc 72 tz.arr)
      refine Stop.mk (wpList_storeB rfl _ _ _ rfl w1.heap.size _ rfl rfl _ E.out.b0 strTk rfl rfl (by simp [Value.oneCell']) ?_)
      intro w2 hb2 hk2
      replace E := Lib.hid (E.out.put0 hb2 hk2)
      obtain ⟨g2, hg2⟩ : ∃ g, g = w1.heap.size := ⟨_, rfl⟩
      rw [← hg2] at E ⊢
      clear hb2 hk2 hg2
      obtain ⟨p0, p1, p2, p3⟩ := tok_cells E.out.blks.2.2.2.1.1; obtain ⟨q0, q1, q2, q3⟩ := tok_cells E.out.blks.2.2.1.1
      have hlt := E.out.blks.2.2.2.1.1.lt
      go_wp2_with (with_reducible refine stop_store 72 (.tmp 11) (.tmp 32) rfl rfl ?_)
      replace E := Lib.hid (E.out.alloc 72 tz.arr)
      refine Stop.mk (wpList_storeB rfl _ _ _ rfl w2.heap.size _ rfl rfl _ E.out.b0 strTk rfl rfl (by simp [Value.oneCell']) ?_)
      intro w3 hb3 hk3
      replace E := Lib.hid ((E.out.put0 hb3 hk3).as (show _ = Tok.arr ⟨a.dev, a.epoch, a.seq, 0⟩ from rfl))
      obtain ⟨g3, hg3⟩ : ∃ g, g = w2.heap.size := ⟨_, rfl⟩
      rw [← hg3] at E ⊢
      clear hb3 hk3 hg3 p0 p1 p2 p3 q0 q1 q2 q3 hlt
      obtain ⟨p0, p1, p2, p3⟩ := tok_cells E.out.blks.2.2.2.2.1.1; obtain ⟨q0, q1, q2, q3⟩ := tok_cells E.out.blks.2.2.2.1.1
      go_wp2_with (fail)
      have EB := Lib.hid E.out.bel
      have BA := Lib.hid E.out.blks.2.2.2.2.1.1
      have BB := Lib.hid E.out.blks.2.2.2.1.1
      have BX := Lib.hid E.out.blks.2.2.1.1
      have BY := Lib.hid E.out.blks.2.1.1
      have BF := Lib.hid E.out.b0
      clear E p0 p1 p2 p3 q0 q1 q2 q3
      refine wp_region_rel [Sp.eq (.agg a.arr), Sp.eq (.bool true), Sp.eq (.agg a.arr), Sp.eq (.bool true), Sp.eq (.bool true), Sp.eq (.bool true), Sp.eq (.pointer (some ⟨w.heap.size, 0, none⟩)), Sp.eq (.int .i64 a.dev), Sp.eq (.pointer (some ⟨w.heap.size, 1, none⟩)), Sp.eq (.int .i64 a.epoch), Sp.eq (.pointer (some ⟨w.heap.size, 2, none⟩)), Sp.eq (.int .i64 a.seq), Sp.eq (.agg (Tok.arr ⟨a.dev, a.epoch, a.seq, 0⟩)), Sp.eq (.agg (Tok.arr ⟨a.dev, a.epoch, a.seq, 0⟩)), Sp.eq (.bool true), Sp.eq (.bool true), Sp.eq (.bool true), Sp.eq (.agg a.arr), Sp.eq (.bool true), Sp.eq (.agg a.arr), Sp.eq (.bool true), Sp.eq (.bool true), Sp.eq (.pointer (some ⟨w.heap.size, 3, none⟩)), Sp.eq (.int .i64 a.cursor), Sp.eq (.bool true), Sp.eq (.bool true), Sp.eq (.bool true), Sp.eq (.bool true), Sp.eq (.bool true), Sp.eq (.agg a.arr), Sp.eq (.agg b.arr), Sp.eq (.bool g), Sp.eq (.agg a.arr), Sp.eq (.agg b.arr), Sp.eq (.bool g), Sp.eq (.bool true), Sp.eq (.bool true), Sp.eq (.bool true), Sp.eq (.string (str s)), Sp.slice 1 bc s, Sp.eq (.agg a.arr), Sp.slice 1 bc z, Sp.eq (.string (str z)), Sp.eq (.string (str s)), Sp.eq (.agg a.arr), Sp.eq (.string (str y)), Sp.eq (.string (str (s ++ y))), Sp.eq (.bool true), Sp.eq (.bool true), Sp.eq (.bool true), Sp.eq (.agg a.arr), Sp.eq (.string (str t)), Sp.eq (.agg a.arr), Sp.eq (.string (str t)), Sp.eq (.bool true), Sp.eq (.bool true), Sp.eq (.bool true), Sp.eq (.agg x.arr), Sp.eq (.agg x.arr), Sp.eq (.bool true), Sp.eq (.bool true), Sp.eq (.bool true), Sp.eq (.bool o), Sp.eq (.bool o), Sp.eq (.bool true), Sp.eq (.bool true), Sp.eq (.bool true), Sp.eq (.bool true), Sp.eq (.bool true), Sp.eq (.bool true)] 102 (by kernel_rfl) (by kernel_rfl) rfl rfl ?_ ?_
      · refine relgoals_genN fun fr hfr => ?_
        have HFR := Lib.hid hfr
        clear hfr
        refine ⟨?_, ?_, ?_, ?_, ?_, ?_, ?_, ?_, ?_, ?_, ?_, ?_, ?_, ?_, ?_, ?_, ?_, ?_, ?_, ?_, ?_, ?_, ?_, ?_, ?_, ?_, ?_, ?_, ?_, ?_, ?_, ?_, ?_, ?_, ?_, ?_, ?_, ?_, ?_, ?_, ?_, ?_, ?_, ?_, ?_, ?_, ?_, ?_, ?_, ?_, ?_, ?_, ?_, ?_, ?_, ?_, ?_, ?_, ?_, ?_, ?_, ?_, ?_, ?_, ?_, ?_, ?_, ?_, ?_, ?_, trivial⟩
        all_goals (intro u W2 hb2 hd; simp [Deps, Region.binds, Sp.slice_holds, Sp.eq_holds] at hd; simp only [putDeps, dstOf, Region.binds])
        case refine_1 =>
          rw [HFR.out]
          go_wp2_with (with_reducible refine stop_loadG 72 _ rfl ?_)
          refine Stop.mk (wpList_loadAtG (by simp [Region.wanted]) _ _ rfl w.heap.size 0 rfl a.arr ((BA.out.below hb2 BA.out.lt).all) strTk (rfl) ?_)
          go_wp2_with (fail); exact RelEnd.mk rfl (Below.refl _ _) rfl
        case refine_2 =>
          rw [HFR.out]
          go_wp2_with (go_at_call 33; refine (CC.out _).mono ?_; rintro e3 W3 ⟨rfl, hb3⟩)
          exact RelEnd.mk rfl hb3 rfl
        case refine_3 =>
          rw [HFR.out]
          go_wp2_with (with_reducible refine stop_loadG 72 _ rfl ?_)
          refine Stop.mk (wpList_loadAtG (by simp [Region.wanted]) _ _ rfl w.heap.size 0 rfl a.arr ((BA.out.below hb2 BA.out.lt).all) strTk (rfl) ?_)
          go_wp2_with (fail); exact RelEnd.mk rfl (Below.refl _ _) rfl
        case refine_4 =>
          rw [HFR.out]
          go_wp2_with (go_at_call 34; refine (CD.out _).mono ?_; rintro e3 W3 ⟨rfl, hb3⟩)
          exact RelEnd.mk rfl hb3 rfl
        case refine_5 =>
          rw [HFR.out]
          go_wp2_with (fail); exact RelEnd.mk rfl (Below.refl _ _) rfl
        case refine_6 =>
          rw [HFR.out]
          go_wp2_with (fail); exact RelEnd.mk rfl (Below.refl _ _) rfl
        case refine_7 =>
          rw [HFR.out]
          go_wp2_with (fail); exact RelEnd.mk rfl (Below.refl _ _) rfl
        case refine_8 =>
          rw [HFR.out]
          have q : World.cell? W2 ⟨w.heap.size, 0, none⟩ = some (.int .i64 a.dev) := (BA.out.below hb2 BA.out.lt).cell rfl
          go_wp2_with (fail); exact RelEnd.mk rfl (Below.refl _ _) rfl
        case refine_9 =>
          rw [HFR.out]
          go_wp2_with (fail); exact RelEnd.mk rfl (Below.refl _ _) rfl
        case refine_10 =>
          rw [HFR.out]
          have q : World.cell? W2 ⟨w.heap.size, 1, none⟩ = some (.int .i64 a.epoch) := (BA.out.below hb2 BA.out.lt).cell rfl
          go_wp2_with (fail); exact RelEnd.mk rfl (Below.refl _ _) rfl
        case refine_11 =>
          rw [HFR.out]
          go_wp2_with (fail); exact RelEnd.mk rfl (Below.refl _ _) rfl
        case refine_12 =>
          rw [HFR.out]
          have q : World.cell? W2 ⟨w.heap.size, 2, none⟩ = some (.int .i64 a.seq) := (BA.out.below hb2 BA.out.lt).cell rfl
          go_wp2_with (fail); exact RelEnd.mk rfl (Below.refl _ _) rfl
        case refine_13 =>
          rw [HFR.out]
          go_wp2_with (go_at_call 35; refine (c_token_First a.dev a.epoch a.seq _).mono ?_; rintro e3 W3 ⟨rfl, hb3⟩)
          exact RelEnd.mk rfl hb3 rfl
        case refine_14 =>
          rw [HFR.out]
          go_wp2_with (with_reducible refine stop_loadG 72 _ rfl ?_)
          refine Stop.mk (wpList_loadAtG (by simp [Region.wanted, yielded]) _ _ rfl g3 0 rfl (Tok.arr ⟨a.dev, a.epoch, a.seq, 0⟩) ((BF.out.below hb2 BF.out.lt).all) strTk (rfl) ?_)
          go_wp2_with (fail); exact RelEnd.mk rfl (Below.refl _ _) rfl
        case refine_15 =>
          rw [HFR.out]
          (try (obtain ⟨d0, hd⟩ := hd; (try (obtain ⟨d1, hd⟩ := hd; (try (obtain ⟨d2, hd⟩ := hd))))))
          go_wp2_with (with_reducible refine stop_bin .eql 72 (.tmp 45) (.tmp 46) 72 rfl ?_)
          refine Stop.mk (wpList_eqlS (by simp [Region.wanted, yielded, *]) _ _ _ _ rfl (Tok.arr ⟨a.dev, a.epoch, a.seq, 0⟩) (Tok.arr ⟨a.dev, a.epoch, a.seq, 0⟩) (by first | rfl | assumption | (simp [*]; done)) (by first | rfl | assumption | (simp [*]; done)) gT true ((eq_tok 9998 ⟨a.dev, a.epoch, a.seq, 0⟩ ⟨a.dev, a.epoch, a.seq, 0⟩ _).trans (by simp)) ?_)
          exact RelEnd.mk rfl (Below.refl _ _) rfl
        case refine_16 =>
          rw [HFR.out]
          go_wp2_with (fail); exact RelEnd.mk rfl (Below.refl _ _) rfl
        case refine_17 =>
          rw [HFR.out]
          go_wp2_with (fail); exact RelEnd.mk rfl (Below.refl _ _) rfl
        case refine_18 =>
          rw [HFR.out]
          go_wp2_with (with_reducible refine stop_loadG 72 _ rfl ?_)
          refine Stop.mk (wpList_loadAtG (by simp [Region.wanted, yielded]) _ _ rfl w.heap.size 0 rfl a.arr ((BA.out.below hb2 BA.out.lt).all) strTk (rfl) ?_)
          go_wp2_with (fail); exact RelEnd.mk rfl (Below.refl _ _) rfl
        case refine_19 =>
          rw [HFR.out]
          go_wp2_with (go_at_call 36; refine (CW.out _).mono ?_; rintro e3 W3 ⟨rfl, hb3⟩)
          exact RelEnd.mk rfl hb3 rfl
        case refine_20 =>
          rw [HFR.out]
          go_wp2_with (with_reducible refine stop_loadG 72 _ rfl ?_)
          refine Stop.mk (wpList_loadAtG (by simp [Region.wanted, yielded]) _ _ rfl w.heap.size 0 rfl a.arr ((BA.out.below hb2 BA.out.lt).all) strTk (rfl) ?_)
          go_wp2_with (fail); exact RelEnd.mk rfl (Below.refl _ _) rfl
        case refine_21 =>
          rw [HFR.out]
          go_wp2_with (go_at_call 34; refine (CD.out _).mono ?_; rintro e3 W3 ⟨rfl, hb3⟩)
          exact RelEnd.mk rfl hb3 rfl
        case refine_22 =>
          rw [HFR.out]
          go_wp2_with (fail); exact RelEnd.mk rfl (Below.refl _ _) rfl
        case refine_23 =>
          rw [HFR.out]
          go_wp2_with (fail); exact RelEnd.mk rfl (Below.refl _ _) rfl
        case refine_24 =>
          rw [HFR.out]
          have q : World.cell? W2 ⟨w.heap.size, 3, none⟩ = some (.int .i64 a.cursor) := (BA.out.below hb2 BA.out.lt).cell rfl
          go_wp2_with (fail); exact RelEnd.mk rfl (Below.refl _ _) rfl
        case refine_25 =>
          rw [HFR.out]
          go_wp2_with (fail); exact RelEnd.mk rfl (Below.refl _ _) rfl
        case refine_26 =>
          rw [HFR.out]
          go_wp2_with (fail); exact RelEnd.mk rfl (Below.refl _ _) rfl
        case refine_27 =>
          rw [HFR.out]
          go_wp2_with (fail); exact RelEnd.mk rfl (Below.refl _ _) rfl
        case refine_28 =>
          rw [HFR.out]
          go_wp2_with (fail); exact RelEnd.mk rfl (Below.refl _ _) rfl
        case refine_29 =>
          rw [HFR.out]
          go_wp2_with (fail); exact RelEnd.mk rfl (Below.refl _ _) rfl
        case refine_30 =>
          rw [HFR.out]
          go_wp2_with (with_reducible refine stop_loadG 72 _ rfl ?_)
          refine Stop.mk (wpList_loadAtG (by simp [Region.wanted, yielded]) _ _ rfl w.heap.size 0 rfl a.arr ((BA.out.below hb2 BA.out.lt).all) strTk (rfl) ?_)
          go_wp2_with (fail); exact RelEnd.mk rfl (Below.refl _ _) rfl
        case refine_31 =>
          rw [HFR.out]
          go_wp2_with (with_reducible refine stop_loadG 72 _ rfl ?_)
          refine Stop.mk (wpList_loadAtG (by simp [Region.wanted, yielded]) _ _ rfl (w.heap.size + 1) 0 rfl b.arr ((BB.out.below hb2 BB.out.lt).all) strTk (rfl) ?_)
          go_wp2_with (fail); exact RelEnd.mk rfl (Below.refl _ _) rfl
        case refine_32 =>
          rw [HFR.out]
          go_wp2_with (go_at_call 37; refine (CG.out _).mono ?_; rintro e3 W3 ⟨rfl, hb3⟩)
          exact RelEnd.mk rfl hb3 rfl
        case refine_33 =>
          rw [HFR.out]
          go_wp2_with (with_reducible refine stop_loadG 72 _ rfl ?_)
          refine Stop.mk (wpList_loadAtG (by simp [Region.wanted, yielded]) _ _ rfl w.heap.size 0 rfl a.arr ((BA.out.below hb2 BA.out.lt).all) strTk (rfl) ?_)
          go_wp2_with (fail); exact RelEnd.mk rfl (Below.refl _ _) rfl
        case refine_34 =>
          rw [HFR.out]
          go_wp2_with (with_reducible refine stop_loadG 72 _ rfl ?_)
          refine Stop.mk (wpList_loadAtG (by simp [Region.wanted, yielded]) _ _ rfl (w.heap.size + 1) 0 rfl b.arr ((BB.out.below hb2 BB.out.lt).all) strTk (rfl) ?_)
          go_wp2_with (fail); exact RelEnd.mk rfl (Below.refl _ _) rfl
        case refine_35 =>
          rw [HFR.out]
          go_wp2_with (go_at_call 38; refine (CH.out _).mono ?_; rintro e3 W3 ⟨rfl, hb3⟩)
          exact RelEnd.mk rfl hb3 rfl
        case refine_36 =>
          rw [HFR.out]
          go_wp2_with (fail); exact RelEnd.mk rfl (Below.refl _ _) rfl
        case refine_37 =>
          rw [HFR.out]
          go_wp2_with (fail); exact RelEnd.mk rfl (Below.refl _ _) rfl
        case refine_38 =>
          rw [HFR.out]
          go_wp2_with (fail); exact RelEnd.mk rfl (Below.refl _ _) rfl
        case refine_39 =>
          rw [HFR.out]
          go_wp2_with (fail); exact RelEnd.mk rfl (Below.refl _ _) rfl
        case refine_40 =>
          rw [HFR.out]
          go_wp2_with (with_reducible refine stop_convG 9 50 (.tmp 71) rfl ?_)
          refine Stop.mk (wpList_strbytesG (by simp [Region.wanted, yielded, *]) _ _ (.tmp 71) rfl Tryd.underlying9 Tryd.underlying50 Tryd.underlying5 s (by first | rfl | (simp [*]; done)) (by omega) ?_)
          intro A5 c5 w5 hl5
          exact RelEnd.mk rfl hl5.below ⟨A5, c5, rfl, hl5.reads⟩
        case refine_41 =>
          rw [HFR.out]
          go_wp2_with (with_reducible refine stop_loadG 72 _ rfl ?_)
          refine Stop.mk (wpList_loadAtG (by simp [Region.wanted, yielded]) _ _ rfl w.heap.size 0 rfl a.arr ((BA.out.below hb2 BA.out.lt).all) strTk (rfl) ?_)
          go_wp2_with (fail); exact RelEnd.mk rfl (Below.refl _ _) rfl
        case refine_42 =>
          rw [HFR.out]
          obtain ⟨⟨A2, c2, d0, d1⟩, d2⟩ := hd
          go_wp2_with (go_at_call 39; refine (CA.out A2 c2 _ d1).mono ?_; rintro e3 W3 ⟨v3, rfl, own3, hb3⟩)
          exact RelEnd.mk rfl hb3 (In.of_own bc_len own3 (by omega))
        case refine_43 =>
          rw [HFR.out]
          obtain ⟨⟨A2, c2, d0, d1⟩, d2⟩ := hd
          have kc := conv_str (P := Tryd.prog) W2 Tryd.underlying50 Tryd.underlying5 Tryd.underlying9 d1
          clear d1
          go_wp2_with (fail); exact RelEnd.mk rfl (Below.refl _ _) rfl
        case refine_44 =>
          rw [HFR.out]
          go_wp2_with (fail); exact RelEnd.mk rfl (Below.refl _ _) rfl
        case refine_45 =>
          rw [HFR.out]
          go_wp2_with (with_reducible refine stop_loadG 72 _ rfl ?_)
          refine Stop.mk (wpList_loadAtG (by simp [Region.wanted, yielded]) _ _ rfl w.heap.size 0 rfl a.arr ((BA.out.below hb2 BA.out.lt).all) strTk (rfl) ?_)
          go_wp2_with (fail); exact RelEnd.mk rfl (Below.refl _ _) rfl
        case refine_46 =>
          rw [HFR.out]
          go_wp2_with (go_at_call 40; refine (CB.out _).mono ?_; rintro e3 W3 ⟨rfl, hb3⟩)
          exact RelEnd.mk rfl hb3 rfl
        case refine_47 =>
          rw [HFR.out]
          go_wp2_with (fail); exact RelEnd.mk rfl (Below.refl _ _) rfl
        case refine_48 =>
          rw [HFR.out]
          go_wp2_with (fail); exact RelEnd.mk rfl (Below.refl _ _) rfl
        case refine_49 =>
          rw [HFR.out]
          go_wp2_with (fail); exact RelEnd.mk rfl (Below.refl _ _) rfl
        case refine_50 =>
          rw [HFR.out]
          go_wp2_with (fail); exact RelEnd.mk rfl (Below.refl _ _) rfl
        case refine_51 =>
          rw [HFR.out]
          go_wp2_with (with_reducible refine stop_loadG 72 _ rfl ?_)
          refine Stop.mk (wpList_loadAtG (by simp [Region.wanted, yielded]) _ _ rfl w.heap.size 0 rfl a.arr ((BA.out.below hb2 BA.out.lt).all) strTk (rfl) ?_)
          go_wp2_with (fail); exact RelEnd.mk rfl (Below.refl _ _) rfl
        case refine_52 =>
          rw [HFR.out]
          go_wp2_with (go_at_call 41; refine (CS.out _ (EB.out.trans (hb2.mono EB.out.size))).mono ?_; rintro e3 W3 ⟨rfl, hb3⟩)
          exact RelEnd.mk rfl hb3 rfl
        case refine_53 =>
          rw [HFR.out]
          go_wp2_with (with_reducible refine stop_loadG 72 _ rfl ?_)
          refine Stop.mk (wpList_loadAtG (by simp [Region.wanted, yielded]) _ _ rfl w.heap.size 0 rfl a.arr ((BA.out.below hb2 BA.out.lt).all) strTk (rfl) ?_)
          go_wp2_with (fail); exact RelEnd.mk rfl (Below.refl _ _) rfl
        case refine_54 =>
          rw [HFR.out]
          go_wp2_with (go_at_call 42; refine (CT.out _).mono ?_; rintro e3 W3 ⟨rfl, hb3⟩)
          exact RelEnd.mk rfl hb3 rfl
        case refine_55 =>
          rw [HFR.out]
          go_wp2_with (fail); exact RelEnd.mk rfl (Below.refl _ _) rfl
        case refine_56 =>
          rw [HFR.out]
          go_wp2_with (fail); exact RelEnd.mk rfl (Below.refl _ _) rfl
        case refine_57 =>
          rw [HFR.out]
          go_wp2_with (fail); exact RelEnd.mk rfl (Below.refl _ _) rfl
        case refine_58 =>
          rw [HFR.out]
          go_wp2_with (with_reducible refine stop_loadG 72 _ rfl ?_)
          refine Stop.mk (wpList_loadAtG (by simp [Region.wanted, yielded]) _ _ rfl g1 0 rfl x.arr ((BX.out.below hb2 BX.out.lt).all) strTk (rfl) ?_)
          go_wp2_with (fail); exact RelEnd.mk rfl (Below.refl _ _) rfl
        case refine_59 =>
          rw [HFR.out]
          go_wp2_with (with_reducible refine stop_loadG 72 _ rfl ?_)
          refine Stop.mk (wpList_loadAtG (by simp [Region.wanted, yielded]) _ _ rfl g2 0 rfl x.arr ((BY.out.below hb2 BY.out.lt).all) strTk (rfl) ?_)
          go_wp2_with (fail); exact RelEnd.mk rfl (Below.refl _ _) rfl
        case refine_60 =>
          rw [HFR.out]
          (try (obtain ⟨d0, hd⟩ := hd; (try (obtain ⟨d1, hd⟩ := hd; (try (obtain ⟨d2, hd⟩ := hd))))))
          go_wp2_with (with_reducible refine stop_bin .eql 72 (.tmp 90) (.tmp 91) 72 rfl ?_)
          refine Stop.mk (wpList_eqlS (by simp [Region.wanted, yielded, *]) _ _ _ _ rfl x.arr x.arr (by first | rfl | assumption | (simp [*]; done)) (by first | rfl | assumption | (simp [*]; done)) gT true ((eq_tok 9998 x x _).trans (by simp)) ?_)
          exact RelEnd.mk rfl (Below.refl _ _) rfl
        case refine_61 =>
          rw [HFR.out]
          go_wp2_with (fail); exact RelEnd.mk rfl (Below.refl _ _) rfl
        case refine_62 =>
          rw [HFR.out]
          go_wp2_with (fail); exact RelEnd.mk rfl (Below.refl _ _) rfl
        case refine_63 =>
          rw [HFR.out]
          go_wp2_with (fail); exact RelEnd.mk rfl (Below.refl _ _) rfl
        case refine_64 =>
          rw [HFR.out]
          go_wp2_with (fail); exact RelEnd.mk rfl (Below.refl _ _) rfl
        case refine_65 =>
          rw [HFR.out]
          go_wp2_with (fail); exact RelEnd.mk rfl (Below.refl _ _) rfl
        case refine_66 =>
          rw [HFR.out]
          go_wp2_with (fail); exact RelEnd.mk rfl (Below.refl _ _) rfl
        case refine_67 =>
          rw [HFR.out]
          go_wp2_with (fail); exact RelEnd.mk rfl (Below.refl _ _) rfl
        case refine_68 =>
          rw [HFR.out]
          go_wp2_with (go_at_call 30; refine (c_law26_awake _ (HP.out _ (EB.out.trans (hb2.mono EB.out.size)))).mono ?_; rintro e3 W3 ⟨rfl, hb3⟩)
          exact RelEnd.mk rfl hb3 rfl
        case refine_69 =>
          rw [HFR.out]
          go_wp2_with (fail); exact RelEnd.mk rfl (Below.refl _ _) rfl
        case refine_70 =>
          rw [HFR.out]
          go_wp2_with (fail); exact RelEnd.mk rfl (Below.refl _ _) rfl
      · intro u W2 hb2 hold
        simp only [RelHold, Sp.eq_holds, Sp.slice_holds, Nat.reduceAdd] at hold
        obtain ⟨-, -, -, -, -, -, -, -, -, -, -, -, -, -, -, -, -, -, -, -, -, -, -, -, -, -, -, -, -, -, -, -, -, -, -, -, -, -, -, -, -, -, -, -, -, -, -, -, -, -, -, -, -, -, -, -, -, -, -, -, -, -, -, -, -, -, -, -, -, hE, -⟩ := hold
        simp only [putAll, Act.put, Nat.reduceAdd, List.setIfInBounds_toArray, List.set_cons_zero, List.set_cons_succ]
        rw [hE]
        go_wp2_with (fail)
        go_ret
        exact RetV.bool rfl (EB.out.trans (hb2.mono EB.out.size))
    · have kcu : (a.cursor == 1073741824) = false := by simpa using hc
      replace CW := Lib.hid (by have := CW.out; unfold Tok.whole at this; rw [hok, decide_eq_false hc, Bool.and_false] at this; exact this)
      clear hok hc
      go_enter Tryd.func7, Tryd.ntmps7
      go_wp2_with (fail)
      refine (CP.out _ E.out.bel).mono ?_
      rintro e w1 ⟨rfl, hb1⟩
      replace E := Lib.hid (E.out.below hb1)
      clear hb1
      go_wp2_with (with_reducible refine stop_store 72 (.tmp 7) (.tmp 19) rfl rfl ?_)
      replace E := Lib.hid (E.out.alloc 72 tz.arr)
      refine Stop.mk (wpList_storeB rfl _ _ _ rfl w1.heap.size _ rfl rfl _ E.out.b0 strTk rfl rfl (by simp [Value.oneCell']) ?_)
      intro w2 hb2 hk2
      replace E := Lib.hid (E.out.put0 hb2 hk2)
      obtain ⟨g1, hg1⟩ : ∃ g, g = w1.heap.size := ⟨_, rfl⟩
      rw [← hg1] at E ⊢
      clear hb2 hk2 hg1
      go_wp2_with (fail)
      refine (CQ.out _).mono ?_
      rintro e w1 ⟨rfl, hb1⟩
      replace E := Lib.hid (E.out.below hb1)
      clear hb1
      go_wp2_with (with_reducible refine stop_store 72 (.tmp 9) (.tmp 24) rfl rfl ?_)
      replace E := Lib.hid (E.out.alloc 72 tz.arr)
      refine Stop.mk (wpList_storeB rfl _ _ _ rfl w1.heap.size _ rfl rfl _ E.out.b0 strTk rfl rfl (by simp [Value.oneCell']) ?_)
      intro w2 hb2 hk2
      replace E := Lib.hid (E.out.put0 hb2 hk2)
      obtain ⟨g2, hg2⟩ : ∃ g, g = w1.heap.size := ⟨_, rfl⟩
      rw [← hg2] at E ⊢
      clear hb2 hk2 hg2
      obtain ⟨p0, p1, p2, p3⟩ := tok_cells E.out.blks.2.2.2.1.1; obtain ⟨q0, q1, q2, q3⟩ := tok_cells E.out.blks.2.2.1.1
      have hlt := E.out.blks.2.2.2.1.1.lt
      go_wp2_with (with_reducible refine stop_store 72 (.tmp 11) (.tmp 32) rfl rfl ?_)
      replace E := Lib.hid (E.out.alloc 72 tz.arr)
      refine Stop.mk (wpList_storeB rfl _ _ _ rfl w2.heap.size _ rfl rfl _ E.out.b0 strTk rfl rfl (by simp [Value.oneCell']) ?_)
      intro w3 hb3 hk3
      replace E := Lib.hid ((E.out.put0 hb3 hk3).as (show _ = Tok.arr ⟨a.dev, a.epoch, a.seq, 0⟩ from rfl))
      obtain ⟨g3, hg3⟩ : ∃ g, g = w2.heap.size := ⟨_, rfl⟩
      rw [← hg3] at E ⊢
      clear hb3 hk3 hg3 p0 p1 p2 p3 q0 q1 q2 q3 hlt
      obtain ⟨p0, p1, p2, p3⟩ := tok_cells E.out.blks.2.2.2.2.1.1; obtain ⟨q0, q1, q2, q3⟩ := tok_cells E.out.blks.2.2.2.1.1
      go_wp2_with (fail)
      have EB := Lib.hid E.out.bel
      have BA := Lib.hid E.out.blks.2.2.2.2.1.1
      have BB := Lib.hid E.out.blks.2.2.2.1.1
      have BX := Lib.hid E.out.blks.2.2.1.1
      have BY := Lib.hid E.out.blks.2.1.1
      have BF := Lib.hid E.out.b0
      clear E p0 p1 p2 p3 q0 q1 q2 q3
      refine wp_region_rel [Sp.eq (.agg a.arr), Sp.eq (.bool true), Sp.eq (.agg a.arr), Sp.eq (.bool true), Sp.eq (.bool true), Sp.eq (.bool true), Sp.eq (.pointer (some ⟨w.heap.size, 0, none⟩)), Sp.eq (.int .i64 a.dev), Sp.eq (.pointer (some ⟨w.heap.size, 1, none⟩)), Sp.eq (.int .i64 a.epoch), Sp.eq (.pointer (some ⟨w.heap.size, 2, none⟩)), Sp.eq (.int .i64 a.seq), Sp.eq (.agg (Tok.arr ⟨a.dev, a.epoch, a.seq, 0⟩)), Sp.eq (.agg (Tok.arr ⟨a.dev, a.epoch, a.seq, 0⟩)), Sp.eq (.bool true), Sp.eq (.bool true), Sp.eq (.bool true), Sp.eq (.agg a.arr), Sp.eq (.bool false), Sp.eq (.agg a.arr), Sp.eq (.bool true), Sp.eq (.bool true), Sp.eq (.pointer (some ⟨w.heap.size, 3, none⟩)), Sp.eq (.int .i64 a.cursor), Sp.eq (.bool false), Sp.eq (.bool false), Sp.eq (.bool true), Sp.eq (.bool true), Sp.eq (.bool true), Sp.eq (.agg a.arr), Sp.eq (.agg b.arr), Sp.eq (.bool g), Sp.eq (.agg a.arr), Sp.eq (.agg b.arr), Sp.eq (.bool g), Sp.eq (.bool true), Sp.eq (.bool true), Sp.eq (.bool true), Sp.eq (.string (str s)), Sp.slice 1 bc s, Sp.eq (.agg a.arr), Sp.slice 1 bc z, Sp.eq (.string (str z)), Sp.eq (.string (str s)), Sp.eq (.agg a.arr), Sp.eq (.string (str y)), Sp.eq (.string (str (s ++ y))), Sp.eq (.bool true), Sp.eq (.bool true), Sp.eq (.bool true), Sp.eq (.agg a.arr), Sp.eq (.string (str t)), Sp.eq (.agg a.arr), Sp.eq (.string (str t)), Sp.eq (.bool true), Sp.eq (.bool true), Sp.eq (.bool true), Sp.eq (.agg x.arr), Sp.eq (.agg x.arr), Sp.eq (.bool true), Sp.eq (.bool true), Sp.eq (.bool true), Sp.eq (.bool o), Sp.eq (.bool o), Sp.eq (.bool true), Sp.eq (.bool true), Sp.eq (.bool true), Sp.eq (.bool true), Sp.eq (.bool true), Sp.eq (.bool true)] 102 (by kernel_rfl) (by kernel_rfl) rfl rfl ?_ ?_
      · refine relgoals_genN fun fr hfr => ?_
        have HFR := Lib.hid hfr
        clear hfr
        refine ⟨?_, ?_, ?_, ?_, ?_, ?_, ?_, ?_, ?_, ?_, ?_, ?_, ?_, ?_, ?_, ?_, ?_, ?_, ?_, ?_, ?_, ?_, ?_, ?_, ?_, ?_, ?_, ?_, ?_, ?_, ?_, ?_, ?_, ?_, ?_, ?_, ?_, ?_, ?_, ?_, ?_, ?_, ?_, ?_, ?_, ?_, ?_, ?_, ?_, ?_, ?_, ?_, ?_, ?_, ?_, ?_, ?_, ?_, ?_, ?_, ?_, ?_, ?_, ?_, ?_, ?_, ?_, ?_, ?_, ?_, trivial⟩
        all_goals (intro u W2 hb2 hd; simp [Deps, Region.binds, Sp.slice_holds, Sp.eq_holds] at hd; simp only [putDeps, dstOf, Region.binds])
        case refine_1 =>
          rw [HFR.out]
          go_wp2_with (with_reducible refine stop_loadG 72 _ rfl ?_)
          refine Stop.mk (wpList_loadAtG (by simp [Region.wanted]) _ _ rfl w.heap.size 0 rfl a.arr ((BA.out.below hb2 BA.out.lt).all) strTk (rfl) ?_)
          go_wp2_with (fail); exact RelEnd.mk rfl (Below.refl _ _) rfl
        case refine_2 =>
          rw [HFR.out]
          go_wp2_with (go_at_call 33; refine (CC.out _).mono ?_; rintro e3 W3 ⟨rfl, hb3⟩)
          exact RelEnd.mk rfl hb3 rfl
        case refine_3 =>
          rw [HFR.out]
          go_wp2_with (with_reducible refine stop_loadG 72 _ rfl ?_)
          refine Stop.mk (wpList_loadAtG (by simp [Region.wanted]) _ _ rfl w.heap.size 0 rfl a.arr ((BA.out.below hb2 BA.out.lt).all) strTk (rfl) ?_)
          go_wp2_with (fail); exact RelEnd.mk rfl (Below.refl _ _) rfl
        case refine_4 =>
          rw [HFR.out]
          go_wp2_with (go_at_call 34; refine (CD.out _).mono ?_; rintro e3 W3 ⟨rfl, hb3⟩)
          exact RelEnd.mk rfl hb3 rfl
        case refine_5 =>
          rw [HFR.out]
          go_wp2_with (fail); exact RelEnd.mk rfl (Below.refl _ _) rfl
        case refine_6 =>
          rw [HFR.out]
          go_wp2_with (fail); exact RelEnd.mk rfl (Below.refl _ _) rfl
        case refine_7 =>
          rw [HFR.out]
          go_wp2_with (fail); exact RelEnd.mk rfl (Below.refl _ _) rfl
        case refine_8 =>
          rw [HFR.out]
          have q : World.cell? W2 ⟨w.heap.size, 0, none⟩ = some (.int .i64 a.dev) := (BA.out.below hb2 BA.out.lt).cell rfl
          go_wp2_with (fail); exact RelEnd.mk rfl (Below.refl _ _) rfl
        case refine_9 =>
          rw [HFR.out]
          go_wp2_with (fail); exact RelEnd.mk rfl (Below.refl _ _) rfl
        case refine_10 =>
          rw [HFR.out]
          have q : World.cell? W2 ⟨w.heap.size, 1, none⟩ = some (.int .i64 a.epoch) := (BA.out.below hb2 BA.out.lt).cell rfl
          go_wp2_with (fail); exact RelEnd.mk rfl (Below.refl _ _) rfl
        case refine_11 =>
          rw [HFR.out]
          go_wp2_with (fail); exact RelEnd.mk rfl (Below.refl _ _) rfl
        case refine_12 =>
          rw [HFR.out]
          have q : World.cell? W2 ⟨w.heap.size, 2, none⟩ = some (.int .i64 a.seq) := (BA.out.below hb2 BA.out.lt).cell rfl
          go_wp2_with (fail); exact RelEnd.mk rfl (Below.refl _ _) rfl
        case refine_13 =>
          rw [HFR.out]
          go_wp2_with (go_at_call 35; refine (c_token_First a.dev a.epoch a.seq _).mono ?_; rintro e3 W3 ⟨rfl, hb3⟩)
          exact RelEnd.mk rfl hb3 rfl
        case refine_14 =>
          rw [HFR.out]
          go_wp2_with (with_reducible refine stop_loadG 72 _ rfl ?_)
          refine Stop.mk (wpList_loadAtG (by simp [Region.wanted, yielded]) _ _ rfl g3 0 rfl (Tok.arr ⟨a.dev, a.epoch, a.seq, 0⟩) ((BF.out.below hb2 BF.out.lt).all) strTk (rfl) ?_)
          go_wp2_with (fail); exact RelEnd.mk rfl (Below.refl _ _) rfl
        case refine_15 =>
          rw [HFR.out]
          (try (obtain ⟨d0, hd⟩ := hd; (try (obtain ⟨d1, hd⟩ := hd; (try (obtain ⟨d2, hd⟩ := hd))))))
          go_wp2_with (with_reducible refine stop_bin .eql 72 (.tmp 45) (.tmp 46) 72 rfl ?_)
          refine Stop.mk (wpList_eqlS (by simp [Region.wanted, yielded, *]) _ _ _ _ rfl (Tok.arr ⟨a.dev, a.epoch, a.seq, 0⟩) (Tok.arr ⟨a.dev, a.epoch, a.seq, 0⟩) (by first | rfl | assumption | (simp [*]; done)) (by first | rfl | assumption | (simp [*]; done)) gT true ((eq_tok 9998 ⟨a.dev, a.epoch, a.seq, 0⟩ ⟨a.dev, a.epoch, a.seq, 0⟩ _).trans (by simp)) ?_)
          exact RelEnd.mk rfl (Below.refl _ _) rfl
        case refine_16 =>
          rw [HFR.out]
          go_wp2_with (fail); exact RelEnd.mk rfl (Below.refl _ _) rfl
        case refine_17 =>
          rw [HFR.out]
          go_wp2_with (fail); exact RelEnd.mk rfl (Below.refl _ _) rfl
        case refine_18 =>
          rw [HFR.out]
          go_wp2_with (with_reducible refine stop_loadG 72 _ rfl ?_)
          refine Stop.mk (wpList_loadAtG (by simp [Region.wanted, yielded]) _ _ rfl w.heap.size 0 rfl a.arr ((BA.out.below hb2 BA.out.lt).all) strTk (rfl) ?_)
          go_wp2_with (fail); exact RelEnd.mk rfl (Below.refl _ _) rfl
        case refine_19 =>
          rw [HFR.out]
          go_wp2_with (go_at_call 36; refine (CW.out _).mono ?_; rintro e3 W3 ⟨rfl, hb3⟩)
          exact RelEnd.mk rfl hb3 rfl
        case refine_20 =>
          rw [HFR.out]
          go_wp2_with (with_reducible refine stop_loadG 72 _ rfl ?_)
          refine Stop.mk (wpList_loadAtG (by simp [Region.wanted, yielded]) _ _ rfl w.heap.size 0 rfl a.arr ((BA.out.below hb2 BA.out.lt).all) strTk (rfl) ?_)
          go_wp2_with (fail); exact RelEnd.mk rfl (Below.refl _ _) rfl
        case refine_21 =>
          rw [HFR.out]
          go_wp2_with (go_at_call 34; refine (CD.out _).mono ?_; rintro e3 W3 ⟨rfl, hb3⟩)
          exact RelEnd.mk rfl hb3 rfl
        case refine_22 =>
          rw [HFR.out]
          go_wp2_with (fail); exact RelEnd.mk rfl (Below.refl _ _) rfl
        case refine_23 =>
          rw [HFR.out]
          go_wp2_with (fail); exact RelEnd.mk rfl (Below.refl _ _) rfl
        case refine_24 =>
          rw [HFR.out]
          have q : World.cell? W2 ⟨w.heap.size, 3, none⟩ = some (.int .i64 a.cursor) := (BA.out.below hb2 BA.out.lt).cell rfl
          go_wp2_with (fail); exact RelEnd.mk rfl (Below.refl _ _) rfl
        case refine_25 =>
          rw [HFR.out]
          go_wp2_with (fail); exact RelEnd.mk rfl (Below.refl _ _) rfl
        case refine_26 =>
          rw [HFR.out]
          go_wp2_with (fail); exact RelEnd.mk rfl (Below.refl _ _) rfl
        case refine_27 =>
          rw [HFR.out]
          go_wp2_with (fail); exact RelEnd.mk rfl (Below.refl _ _) rfl
        case refine_28 =>
          rw [HFR.out]
          go_wp2_with (fail); exact RelEnd.mk rfl (Below.refl _ _) rfl
        case refine_29 =>
          rw [HFR.out]
          go_wp2_with (fail); exact RelEnd.mk rfl (Below.refl _ _) rfl
        case refine_30 =>
          rw [HFR.out]
          go_wp2_with (with_reducible refine stop_loadG 72 _ rfl ?_)
          refine Stop.mk (wpList_loadAtG (by simp [Region.wanted, yielded]) _ _ rfl w.heap.size 0 rfl a.arr ((BA.out.below hb2 BA.out.lt).all) strTk (rfl) ?_)
          go_wp2_with (fail); exact RelEnd.mk rfl (Below.refl _ _) rfl
        case refine_31 =>
          rw [HFR.out]
          go_wp2_with (with_reducible refine stop_loadG 72 _ rfl ?_)
          refine Stop.mk (wpList_loadAtG (by simp [Region.wanted, yielded]) _ _ rfl (w.heap.size + 1) 0 rfl b.arr ((BB.out.below hb2 BB.out.lt).all) strTk (rfl) ?_)
          go_wp2_with (fail); exact RelEnd.mk rfl (Below.refl _ _) rfl
        case refine_32 =>
          rw [HFR.out]
          go_wp2_with (go_at_call 37; refine (CG.out _).mono ?_; rintro e3 W3 ⟨rfl, hb3⟩)
          exact RelEnd.mk rfl hb3 rfl
        case refine_33 =>
          rw [HFR.out]
          go_wp2_with (with_reducible refine stop_loadG 72 _ rfl ?_)
          refine Stop.mk (wpList_loadAtG (by simp [Region.wanted, yielded]) _ _ rfl w.heap.size 0 rfl a.arr ((BA.out.below hb2 BA.out.lt).all) strTk (rfl) ?_)
          go_wp2_with (fail); exact RelEnd.mk rfl (Below.refl _ _) rfl
        case refine_34 =>
          rw [HFR.out]
          go_wp2_with (with_reducible refine stop_loadG 72 _ rfl ?_)
          refine Stop.mk (wpList_loadAtG (by simp [Region.wanted, yielded]) _ _ rfl (w.heap.size + 1) 0 rfl b.arr ((BB.out.below hb2 BB.out.lt).all) strTk (rfl) ?_)
          go_wp2_with (fail); exact RelEnd.mk rfl (Below.refl _ _) rfl
        case refine_35 =>
          rw [HFR.out]
          go_wp2_with (go_at_call 38; refine (CH.out _).mono ?_; rintro e3 W3 ⟨rfl, hb3⟩)
          exact RelEnd.mk rfl hb3 rfl
        case refine_36 =>
          rw [HFR.out]
          go_wp2_with (fail); exact RelEnd.mk rfl (Below.refl _ _) rfl
        case refine_37 =>
          rw [HFR.out]
          go_wp2_with (fail); exact RelEnd.mk rfl (Below.refl _ _) rfl
        case refine_38 =>
          rw [HFR.out]
          go_wp2_with (fail); exact RelEnd.mk rfl (Below.refl _ _) rfl
        case refine_39 =>
          rw [HFR.out]
          go_wp2_with (fail); exact RelEnd.mk rfl (Below.refl _ _) rfl
        case refine_40 =>
          rw [HFR.out]
          go_wp2_with (with_reducible refine stop_convG 9 50 (.tmp 71) rfl ?_)
          refine Stop.mk (wpList_strbytesG (by simp [Region.wanted, yielded, *]) _ _ (.tmp 71) rfl Tryd.underlying9 Tryd.underlying50 Tryd.underlying5 s (by first | rfl | (simp [*]; done)) (by omega) ?_)
          intro A5 c5 w5 hl5
          exact RelEnd.mk rfl hl5.below ⟨A5, c5, rfl, hl5.reads⟩
        case refine_41 =>
          rw [HFR.out]
          go_wp2_with (with_reducible refine stop_loadG 72 _ rfl ?_)
          refine Stop.mk (wpList_loadAtG (by simp [Region.wanted, yielded]) _ _ rfl w.heap.size 0 rfl a.arr ((BA.out.below hb2 BA.out.lt).all) strTk (rfl) ?_)
          go_wp2_with (fail); exact RelEnd.mk rfl (Below.refl _ _) rfl
        case refine_42 =>
          rw [HFR.out]
          obtain ⟨⟨A2, c2, d0, d1⟩, d2⟩ := hd
          go_wp2_with (go_at_call 39; refine (CA.out A2 c2 _ d1).mono ?_; rintro e3 W3 ⟨v3, rfl, own3, hb3⟩)
          exact RelEnd.mk rfl hb3 (In.of_own bc_len own3 (by omega))
        case refine_43 =>
          rw [HFR.out]
          obtain ⟨⟨A2, c2, d0, d1⟩, d2⟩ := hd
          have kc := conv_str (P := Tryd.prog) W2 Tryd.underlying50 Tryd.underlying5 Tryd.underlying9 d1
          clear d1
          go_wp2_with (fail); exact RelEnd.mk rfl (Below.refl _ _) rfl
        case refine_44 =>
          rw [HFR.out]
          go_wp2_with (fail); exact RelEnd.mk rfl (Below.refl _ _) rfl
        case refine_45 =>
          rw [HFR.out]
          go_wp2_with (with_reducible refine stop_loadG 72 _ rfl ?_)
          refine Stop.mk (wpList_loadAtG (by simp [Region.wanted, yielded]) _ _ rfl w.heap.size 0 rfl a.arr ((BA.out.below hb2 BA.out.lt).all) strTk (rfl) ?_)
          go_wp2_with (fail); exact RelEnd.mk rfl (Below.refl _ _) rfl
        case refine_46 =>
          rw [HFR.out]
          go_wp2_with (go_at_call 40; refine (CB.out _).mono ?_; rintro e3 W3 ⟨rfl, hb3⟩)
          exact RelEnd.mk rfl hb3 rfl
        case refine_47 =>
          rw [HFR.out]
          go_wp2_with (fail); exact RelEnd.mk rfl (Below.refl _ _) rfl
        case refine_48 =>
          rw [HFR.out]
          go_wp2_with (fail); exact RelEnd.mk rfl (Below.refl _ _) rfl
        case refine_49 =>
          rw [HFR.out]
          go_wp2_with (fail); exact RelEnd.mk rfl (Below.refl _ _) rfl
        case refine_50 =>
          rw [HFR.out]
          go_wp2_with (fail); exact RelEnd.mk rfl (Below.refl _ _) rfl
        case refine_51 =>
          rw [HFR.out]
          go_wp2_with (with_reducible refine stop_loadG 72 _ rfl ?_)
          refine Stop.mk (wpList_loadAtG (by simp [Region.wanted, yielded]) _ _ rfl w.heap.size 0 rfl a.arr ((BA.out.below hb2 BA.out.lt).all) strTk (rfl) ?_)
          go_wp2_with (fail); exact RelEnd.mk rfl (Below.refl _ _) rfl
        case refine_52 =>
          rw [HFR.out]
          go_wp2_with (go_at_call 41; refine (CS.out _ (EB.out.trans (hb2.mono EB.out.size))).mono ?_; rintro e3 W3 ⟨rfl, hb3⟩)
          exact RelEnd.mk rfl hb3 rfl
        case refine_53 =>
          rw [HFR.out]
          go_wp2_with (with_reducible refine stop_loadG 72 _ rfl ?_)
          refine Stop.mk (wpList_loadAtG (by simp [Region.wanted, yielded]) _ _ rfl w.heap.size 0 rfl a.arr ((BA.out.below hb2 BA.out.lt).all) strTk (rfl) ?_)
          go_wp2_with (fail); exact RelEnd.mk rfl (Below.refl _ _) rfl
        case refine_54 =>
          rw [HFR.out]
          go_wp2_with (go_at_call 42; refine (CT.out _).mono ?_; rintro e3 W3 ⟨rfl, hb3⟩)
          exact RelEnd.mk rfl hb3 rfl
        case refine_55 =>
          rw [HFR.out]
          go_wp2_with (fail); exact RelEnd.mk rfl (Below.refl _ _) rfl
        case refine_56 =>
          rw [HFR.out]
          go_wp2_with (fail); exact RelEnd.mk rfl (Below.refl _ _) rfl
        case refine_57 =>
          rw [HFR.out]
          go_wp2_with (fail); exact RelEnd.mk rfl (Below.refl _ _) rfl
        case refine_58 =>
          rw [HFR.out]
          go_wp2_with (with_reducible refine stop_loadG 72 _ rfl ?_)
          refine Stop.mk (wpList_loadAtG (by simp [Region.wanted, yielded]) _ _ rfl g1 0 rfl x.arr ((BX.out.below hb2 BX.out.lt).all) strTk (rfl) ?_)
          go_wp2_with (fail); exact RelEnd.mk rfl (Below.refl _ _) rfl
        case refine_59 =>
          rw [HFR.out]
          go_wp2_with (with_reducible refine stop_loadG 72 _ rfl ?_)
          refine Stop.mk (wpList_loadAtG (by simp [Region.wanted, yielded]) _ _ rfl g2 0 rfl x.arr ((BY.out.below hb2 BY.out.lt).all) strTk (rfl) ?_)
          go_wp2_with (fail); exact RelEnd.mk rfl (Below.refl _ _) rfl
        case refine_60 =>
          rw [HFR.out]
          (try (obtain ⟨d0, hd⟩ := hd; (try (obtain ⟨d1, hd⟩ := hd; (try (obtain ⟨d2, hd⟩ := hd))))))
          go_wp2_with (with_reducible refine stop_bin .eql 72 (.tmp 90) (.tmp 91) 72 rfl ?_)
          refine Stop.mk (wpList_eqlS (by simp [Region.wanted, yielded, *]) _ _ _ _ rfl x.arr x.arr (by first | rfl | assumption | (simp [*]; done)) (by first | rfl | assumption | (simp [*]; done)) gT true ((eq_tok 9998 x x _).trans (by simp)) ?_)
          exact RelEnd.mk rfl (Below.refl _ _) rfl
        case refine_61 =>
          rw [HFR.out]
          go_wp2_with (fail); exact RelEnd.mk rfl (Below.refl _ _) rfl
        case refine_62 =>
          rw [HFR.out]
          go_wp2_with (fail); exact RelEnd.mk rfl (Below.refl _ _) rfl
        case refine_63 =>
          rw [HFR.out]
          go_wp2_with (fail); exact RelEnd.mk rfl (Below.refl _ _) rfl
        case refine_64 =>
          rw [HFR.out]
          go_wp2_with (fail); exact RelEnd.mk rfl (Below.refl _ _) rfl
        case refine_65 =>
          rw [HFR.out]
          go_wp2_with (fail); exact RelEnd.mk rfl (Below.refl _ _) rfl
        case refine_66 =>
          rw [HFR.out]
          go_wp2_with (fail); exact RelEnd.mk rfl (Below.refl _ _) rfl
        case refine_67 =>
          rw [HFR.out]
          go_wp2_with (fail); exact RelEnd.mk rfl (Below.refl _ _) rfl
        case refine_68 =>
          rw [HFR.out]
          go_wp2_with (go_at_call 30; refine (c_law26_awake _ (HP.out _ (EB.out.trans (hb2.mono EB.out.size)))).mono ?_; rintro e3 W3 ⟨rfl, hb3⟩)
          exact RelEnd.mk rfl hb3 rfl
        case refine_69 =>
          rw [HFR.out]
          go_wp2_with (fail); exact RelEnd.mk rfl (Below.refl _ _) rfl
        case refine_70 =>
          rw [HFR.out]
          go_wp2_with (fail); exact RelEnd.mk rfl (Below.refl _ _) rfl
      · intro u W2 hb2 hold
        simp only [RelHold, Sp.eq_holds, Sp.slice_holds, Nat.reduceAdd] at hold
        obtain ⟨-, -, -, -, -, -, -, -, -, -, -, -, -, -, -, -, -, -, -, -, -, -, -, -, -, -, -, -, -, -, -, -, -, -, -, -, -, -, -, -, -, -, -, -, -, -, -, -, -, -, -, -, -, -, -, -, -, -, -, -, -, -, -, -, -, -, -, -, -, hE, -⟩ := hold
        simp only [putAll, Act.put, Nat.reduceAdd, List.setIfInBounds_toArray, List.set_cons_zero, List.set_cons_succ]
        rw [hE]
        go_wp2_with (fail)
        go_ret
        exact RetV.bool rfl (EB.out.trans (hb2.mono EB.out.size))
end Go.Proofs.YtfgjhgecmelccaaDoor
