/-
  Lemmas (walks and plain laws), in one text.
-/
import Derived.Test.YtjhndilflcigiaaDoorQd9
import Derived.Test.YtjhndilflcigiaaDoorRows
import Derived.WalkKit
import Derived.WalkSpells
import Derived.WalkLawsBesides
import Derived.Lib.Hide
import Derived.Deep.QuietTactic
import Derived.BigQuiet
import Derived.Maps.AppendAt
import Derived.WalkSmall
import Derived.ProofKit
import Derived.OpenShut
import Derived.JoinedCond
import Derived.Deep.Slices
import Derived.Deep.Fields
import Derived.Carry
import Derived.Shelf.Strings.Builder1
import Derived.Shelf.Strings.Builder2
import Derived.Shelf.Strings.OnBuilder
import Derived.Shelf.Strings.BuilderF
import Derived.Shelf.Strings.BuilderK
import Derived.Shelf.Strings.Builder2Cap
import Derived.Shelf.Strconv.Itoa0
import Derived.Shelf.Strconv.Itoa1
import Derived.Shelf.LaysM
import Derived.Shelf.Strconv.Itoa2
import Derived.Shelf.Strconv.Itoa3
import Derived.Ground.Names2Prog
import Derived.Shelf.Slices.Clone
import Derived.Shelf.Slices.SearchI
import Derived.Ground.SlgnProg
import Derived.Shelf.SlicesE.Clone
import Derived.Test.YtjhndilflcigiaaDoorProg
import Derived.Deep.AppendSrc
import Derived.Lib.AppendStr
import Derived.Laws.BytesArg
import Derived.Lib.AppendIntMem
import Derived.Lib.ItoaLen
import Derived.Test.YtjhndilflcigiaaDoorTie
import Derived.Lib.LaidTab
import Derived.LaidMore
import Derived.Stop.LaidErr
import Derived.SevenTiedAt
import Derived.Test.YtjhndilflcigiaaDoorCards
import Derived.Deep.CutBlock
import Derived.Deep.DeepCutAuto
import Derived.Laws.Tables
import Derived.Laws.Rows
import Derived.Shelf.Spec.TrailingZeros
import Derived.RangeFuncNested
import Derived.RangeFuncBound
import Derived.RangeFuncCalls
import Derived.RangeFuncLeaves
import Derived.Shelf.Abstract
import Derived.Shelf.RegionOpen
import Derived.OwnWalkIn
import Derived.TacticsInMore
import Derived.LoopNIn
import Derived.LoopIn
import Derived.ChangeKeysEq
import Derived.Laws.StructEq
import Derived.Laws.CopyOwn
import Derived.Outline
import Derived.IntWalk
import Derived.Lib.EndianBits
import Derived.StillTail
namespace Go.Proofs.YtjhndilflcigiaaDoor
open Go.RowKit

theorem splice_all {l : List UInt8} {cur : List Value} (hc : cur.length = l.length) : splice cur 0 (l.flatMap bc) = l.flatMap bc := by
  have hl := flat_length bc_len l
  unfold splice
  rw [List.take_zero, List.nil_append, List.drop_of_length_le (by omega), List.append_nil]
theorem Row.of_heap {w : World} {b : Nat} {t : TypeId} {l : List UInt8} (h : w.heap[b]? = some (.cells (l.flatMap bc).toArray t (0, 0))) : Row 1 bc w b 0 l := by
  intro i hi j u hu
  have hj : j < 1 := (List.getElem?_eq_some_iff.1 hu).1
  have h0 : j = 0 := by omega
  subst h0
  have := flat_get bc_len l i hi 0 (by omega)
  rw [cell_of_row w b _ _ _ _ h, List.getElem?_toArray, Nat.zero_add, this]
  exact hu
/-- The walk stands still at a copy. -/
theorem stop_copy {P : Program} {w : World} {ops : Array Oper} {rest : List Oper} {o : Oper} {a : Act} {Q : Exit → Act → World → Prop} (d s : Operand) (dT sT : TypeId)
    (_ : o.op = .call { callee := .builtin .copy, args := #[d, s], argTypes := #[dT, sT] }) (h : Stop (wpList P ops Q (o :: rest) a w)) : wpList P ops Q (o :: rest) a w := h
set_option maxHeartbeats 400000 in
set_option maxRecDepth 4000 in
theorem c_octet_New (l : List UInt8) (A : Option Addr) (c : Nat) (w : World) (h : InB w A c l) : Calls Tryd.prog 16 #[.slice A l.length c] w (RetNew w l) := by
  have hL := h.1
  have hC := h.2.1
  have hS := h.2.2.1
  obtain ⟨i, z, hi, hz0, hz1, hz2, hz3⟩ := elemB.info
  have H := Lib.hid h
  clear h
  go_enter Tryd.func16, Tryd.ntmps16
  go_wp2_with (at_make; refine Stop.out ?_)
  refine Stop.mk (wpList_make_full _ rfl (.tmp 5) (.tmp 5) 33 rfl w.heap.size 5 i z 1 Tryd.underlying33 hi hz0 hz1 _ _ _ _ l.length rfl rfl rfl rfl (by rw [hz2]; omega) (by unfold maxLen; omega) (Nat.le_refl _) ?_)
  intro w1 own1 g1
  have hb1 : Below w.heap.size w w1 := grown_below g1 (Nat.le_refl _) (fun k hk => by cases hk)
  obtain ⟨cur, hcur, hcl⟩ : ∃ cur : List Value, w1.heap[w.heap.size]? = some (.cells cur.toArray 5 (0, 0)) ∧ cur.length = l.length := by
    rcases own1.2 with ⟨hv, _⟩ | ⟨g, cap, cur, hv, _, hh, _, _, hs, _⟩
    · cases hv
    · injection hv with e1 e2 e3
      injection e1 with e1
      injection e1 with e1
      subst e1 e3
      exact ⟨cur.toList, hh, by simpa using hs⟩
  have Hcur := Lib.hid hcur
  have Hcl := Lib.hid hcl
  have Own1 := Lib.hid own1
  have hz1' := hb1.size
  clear hcur hcl own1 g1
  have hwz : w.heap.size < w1.heap.size := by
    have h1 := Hcur.out
    rcases Nat.lt_or_ge w.heap.size w1.heap.size with hlt | hge
    · exact hlt
    · rw [Array.getElem?_eq_none hge] at h1; cases h1
  go_wp2_with (with_reducible refine stop_copy (.tmp 7) (.tmp 8) _ _ rfl ?_)
  have hsrc := Src.of_in bc_len (by omega) (H.out.below hb1)
  have hfl := flat_length bc_len l
  refine Stop.mk (wpList_copy_splice rfl (.tmp 7) (.tmp 8) _ _ rfl 5 Tryd.underlying33 (by kernel_rfl) _ _ _ _ _ _ rfl rfl w.heap.size 0 cur 5 Hcur.out (l.flatMap bc) (by simp [hfl]) ?_ (by have := Hcl.out; omega) (bc_one l) w.heap.size w hb1 (Nat.le_refl _) ?_)
  · intro hpos
    obtain ⟨ad, h1, h2⟩ := hsrc.2 (by omega)
    exact ⟨rfl, ad, h1, h2⟩
  intro w2 hg2 hb2
  have hrow2 : Row 1 bc w2 w.heap.size 0 l := by
    have := hg2.out
    rw [splice_all Hcl.out] at this
    exact Row.of_heap this
  have hwz2 : w.heap.size < w2.heap.size := by
    have h1 := hg2.out
    rcases Nat.lt_or_ge w.heap.size w2.heap.size with hlt | hge
    · exact hlt
    · rw [Array.getElem?_eq_none hge] at h1; cases h1
  have Hrow2 := Lib.hid hrow2
  clear hrow2 hsrc hfl
  go_wp2_with (fail)
  go_ret
  refine ⟨w2.heap.size, rfl, by omega, ?_, (by repeat (first | exact Below.refl _ _ | refine Below.drew ?_ | refine Below.alloc ?_ (by first | omega | (simp; done) | (simp; omega)) _ | refine Below.setCell ?_ (by first | omega | (simp; done) | (simp; omega)) _ | refine Below.trans ?_ (Below.mono (by assumption) (by first | omega | (simp; done) | (simp; omega)))))⟩
  refine RdP.mk (A := some ⟨w.heap.size, 0, none⟩) (c := l.length) (B := l) (pos := 0) ⟨Blk.new _ _ _, by omega, Nat.le_refl _, by omega, hS, .inr ⟨_, _, rfl, hwz2, ?_⟩⟩ rfl
  exact Hrow2.out.below ((Below.refl _ _).alloc (Nat.le_refl _) _) hwz2
end Go.Proofs.YtjhndilflcigiaaDoor
namespace Go.Proofs.YtjhndilflcigiaaDoor
open Go.RowKit

theorem h_tok : Tryd.prog.stoodInHeld 47 = false := by kernel_rfl
theorem u_tok : Tryd.prog.underlying 47 = some (.struct (Tryd.prog.fieldsOf 47)) := by kernel_rfl
theorem f_tok : (Tryd.prog.fieldsOf 47).toList.map (fun f => (f.name == "_", f.type, f.offset)) = [(false, 3, 0), (false, 3, 1), (false, 3, 2), (false, 3, 3)] := by kernel_rfl
theorem gT : Tryd.prog.eqGuardType Tryd.prog.depth 47 = false := by kernel_rfl
set_option maxRecDepth 100000 in
theorem eq_tok (d : Nat) (x y : Tok) (w : World) : (Op.equalIn (d + 2) 47 (.agg x.arr) (.agg y.arr)).run Tryd.prog w = .ok (decide (x = y)) w := by
  have h : (eqF (d + 1) x.arr y.arr [(false, 3, 0), (false, 3, 1), (false, 3, 2), (false, 3, 3)]).run Tryd.prog w = .ok (x.dev == y.dev && (x.epoch == y.epoch && (x.seq == y.seq && (x.cursor == y.cursor && true)))) w :=
    eqF_cons _ _ _ _ _ _ (run_part_plain w plain3 rfl) (run_part_plain w plain3 rfl) (run_equalIn_int w d _ _ _ _ _ Tryd.underlying3)
    (eqF_cons _ _ _ _ _ _ (run_part_plain w plain3 rfl) (run_part_plain w plain3 rfl) (run_equalIn_int w d _ _ _ _ _ Tryd.underlying3)
    (eqF_cons _ _ _ _ _ _ (run_part_plain w plain3 rfl) (run_part_plain w plain3 rfl) (run_equalIn_int w d _ _ _ _ _ Tryd.underlying3)
    (eqF_cons _ _ _ _ _ _ (run_part_plain w plain3 rfl) (run_part_plain w plain3 rfl) (run_equalIn_int w d _ _ _ _ _ Tryd.underlying3)
      (eqF_nil _ _ _))))
  rw [eqS (d + 1) _ _ _ u_tok h_tok f_tok h]
  congr 1
  rw [Bool.eq_iff_iff]
  obtain ⟨a, b, c, e⟩ := x
  obtain ⟨a', b', c', e'⟩ := y
  simp
abbrev a26 : Tok := ⟨2, 1, 7, 1073741824⟩
theorem a26_text : tokT a26 = [50, 46, 49, 46, 55, 46, 97, 108, 108] := by decide +kernel
set_option maxHeartbeats 400000 in
theorem c_law26_awake (w : World) (hP : PowTab w) : Calls Tryd.prog 15 #[] w (RetV w (.bool true)) := by
  go_enter Tryd.func15, Tryd.ntmps15
  go_wp2_with (fail)
  refine (c_token_Show a26 _ hP).mono ?_
  rintro e w1 ⟨rfl, hb1⟩
  rw [a26_text]
  go_wp2_with (fail)
  go_ret
  exact RetV.bool rfl hb1
set_option maxHeartbeats 400000 in
theorem c_law26_TokenReads_long (n : Nat) (A : Option Addr) (c : Nat) (w : World) (hP : PowTab w) (hn : 500 < n) :
    Calls Tryd.prog 4 #[.slice A n c] w (RetV w (.bool true)) := by
  go_enter Tryd.func4, Tryd.ntmps4
  go_wp2_with (go_at_call 15; refine (c_law26_awake _ hP).mono ?_; rintro e w2 ⟨rfl, hb2⟩)
  go_ret
  exact RetV.bool rfl (by repeat (first | exact Below.refl _ _ | refine Below.drew ?_ | refine Below.alloc ?_ (by first | omega | (simp; done) | (simp; omega)) _ | refine Below.setCell ?_ (by first | omega | (simp; done) | (simp; omega)) _ | refine Below.trans ?_ (Below.mono (by assumption) (by first | omega | (simp; done) | (simp; omega)))))
set_option maxHeartbeats 8000000 in
set_option maxRecDepth 10000 in
theorem c_law26_TokenReads (b : List UInt8) (A : Option Addr) (c : Nat) (w : World) (h : InB w A c b) (hb : b.length ≤ 500) (hP : PowTab w) :
    Calls Tryd.prog 4 #[.slice A b.length c] w (RetV w (.bool true)) := by
  have hL := h.1
  have hC := h.2.1
  have hS := h.2.2.1
  have H := Lib.hid h
  have HP := Lib.hid hP
  have KB := Lib.hid (fun (w' : World) (hw : Below w.heap.size w w') => conv_str (P := Tryd.prog) w' Tryd.underlying33 Tryd.underlying5 Tryd.underlying9 (H.out.below hw))
  clear h hP
  go_enter Tryd.func4, Tryd.ntmps4
  go_wp2_with (fail)
  refine (c_octet_New b A c _ H.out).mono ?_
  rintro e w1 ⟨g, rfl, hg, hr1, hb1⟩
  have hgl := hr1.lt rfl
  have kb := KB.out w1 hb1
  have L0 := Lib.hid (show RW w (w1.alloc (.cells #[.string (str b), .int .i64 0] 45)) g w1.heap.size ⟨b, 0⟩ ⟨b, 0⟩ from ⟨hb1.alloc hb1.size _, hr1.below ((Below.refl _ _).alloc (Nat.le_refl _) _), ⟨Blk.new _ _ _, by simp only; omega⟩, hg, hgl⟩)
  obtain ⟨h, hh⟩ : ∃ h, h = w1.heap.size := ⟨_, rfl⟩
  go_wp2_with (fail)
  rw [← hh] at L0 ⊢
  clear hh hr1 hb1 hgl kb hg
  go_loopw [5] (fun i wr => ∃ (k : Nat) (st : Rd), k ≤ 4 ∧ i = .int .i64 k ∧ Hid (RW w wr g h st st))
    (fun i _ => 4 - (intOf i).toNat)
  case atStart => exact ⟨0, ⟨b, 0⟩, by omega, rfl, L0.out⟩
  case round =>
    obtain ⟨k, st, hk3, rfl, L1⟩ := hrel
    clear L0
    by_cases hlt : k < 4
    · have hd : decide ((k : Int) < 4) = true := by simp; omega
      have HLT := Lib.hid hlt
      have LD := Lib.hid (L1.out.step (Below.refl _ _).drew)
      have hhd : h < wr.drew.heap.size := LD.out.hi
      clear hlt hk3 L1
      go_wp2_with (fail)
      refine wp_region_two (N := 50) (by kernel_rfl) (by kernel_rfl) rfl 20 rfl (by kernel_rfl) rfl ⟨rfl, rfl, rfl⟩ ⟨rfl, rfl, rfl⟩ ⟨rfl, rfl, rfl⟩ ⟨rfl, rfl, rfl⟩
        ⟨Tryd.func17, by kernel_rfl, by kernel_rfl⟩ ⟨Tryd.func18, by kernel_rfl, by kernel_rfl⟩ (by first | decide | simp) ⟨by first | decide | simp, by first | decide | simp⟩ (by decide) (by decide) ?_
      refine (c_token_Read (some g) st _ LD.out.rp).mono ?_
      rintro e w5 ⟨rfl, hrp2, hk2⟩
      have L2 := Lib.hid (LD.out.readP hrp2 hk2)
      clear hrp2 hk2
      refine ⟨_, rfl, ?_⟩
      refine (c_ref26_Read h st _ L2.out.rr).mono ?_
      rintro e w6 ⟨rfl, hrr3, hk3⟩
      have L3 := Lib.hid (L2.out.readR hrr3 hk3)
      have hh3 : h < w6.heap.size := L3.out.hi
      clear hrr3 hk3 L2 LD
      refine ⟨_, rfl, [Sp.eq (.bool false), Sp.eq (.bool false), Sp.eq (ptr (some g)), Sp.eq (.int .i64 (rdTok' st).e), Sp.eq (.pointer (some ⟨h, 0, none⟩)), Sp.eq (.pointer (some ⟨h, 0, none⟩)), Sp.eq (.pointer (some ⟨h, 1, none⟩)), Sp.eq (.int .i64 (rdTok' st).e), Sp.eq (.bool false), Sp.eq (.bool false), Sp.eq (.bool false), Sp.eq (ptr (some g)), Sp.eq (.int .i64 (rdTok' st).s.length), Sp.eq (.pointer (some ⟨h, 0, none⟩)), Sp.eq (.pointer (some ⟨h, 0, none⟩)), Sp.eq (.pointer (some ⟨h, 0, none⟩)), Sp.eq (.string (str (rdTok' st).s)), Sp.eq (.int .i64 (rdTok' st).s.length), Sp.eq (.bool false), Sp.eq (.bool false)], rfl, ?_, ?_⟩
      · show RelGoals _ _ (Sp.eq (ptr (some g)) :: Sp.eq (.agg (rdTok st).arr) :: Sp.eq (.pointer (some ⟨h, 0, none⟩)) :: Sp.eq (.agg (rdTok st).arr) :: _) _ _ _ _
        refine relgoals_genN fun fr hfr => ?_
        have HFR := Lib.hid hfr
        clear hfr
        refine ⟨?_, ?_, ?_, ?_, ?_, ?_, ?_, ?_, ?_, ?_, ?_, ?_, ?_, ?_, ?_, ?_, ?_, ?_, ?_, ?_, trivial⟩
        all_goals (intro u w7 hb7 hd; simp [Deps, Region.binds, Sp.eq_holds] at hd; simp only [putDeps, dstOf, Region.binds])
        case refine_1 =>
          rw [HFR.out]
          obtain ⟨d0, d1⟩ := hd
          rw [d0, d1]
          go_wp2_with (with_reducible refine stop_bin .neq 47 (.tmp 21) (.tmp 23) 47 rfl ?_)
          refine Stop.mk (wpList_neqS (by rfl) _ _ _ _ rfl (rdTok st).arr (rdTok st).arr rfl rfl gT true ((eq_tok 9998 (rdTok st) (rdTok st) _).trans (by simp)) ?_)
          exact RelEnd.mk rfl (Below.refl _ _) rfl
        case refine_2 =>
          (try (obtain ⟨d0, hd⟩ := hd; (try (obtain ⟨d1, hd⟩ := hd; (try (obtain ⟨d2, hd⟩ := hd))))))
          rw [HFR.out]
          go_wp2_with (fail)
          exact RelEnd.mk rfl (Below.refl _ _) rfl
        case refine_3 =>
          (try (obtain ⟨d0, hd⟩ := hd; (try (obtain ⟨d1, hd⟩ := hd; (try (obtain ⟨d2, hd⟩ := hd))))))
          rw [HFR.out]
          go_wp2_with (fail)
          exact RelEnd.mk rfl (Below.refl _ _) rfl
        case refine_4 =>
          (try (obtain ⟨d0, hd⟩ := hd; (try (obtain ⟨d1, hd⟩ := hd; (try (obtain ⟨d2, hd⟩ := hd))))))
          rw [HFR.out]
          go_wp2_with (go_at_call 19; refine (c_octet_Err' (some g) _ _ (L3.out.rp.below hb7)).mono ?_; rintro e4 w5 ⟨rfl, hb5⟩)
          exact RelEnd.mk rfl hb5 rfl
        case refine_5 =>
          (try (obtain ⟨d0, hd⟩ := hd; (try (obtain ⟨d1, hd⟩ := hd; (try (obtain ⟨d2, hd⟩ := hd))))))
          rw [HFR.out]
          go_wp2_with (fail)
          exact RelEnd.mk rfl (Below.refl _ _) rfl
        case refine_6 =>
          (try (obtain ⟨d0, hd⟩ := hd; (try (obtain ⟨d1, hd⟩ := hd; (try (obtain ⟨d2, hd⟩ := hd))))))
          rw [HFR.out]
          go_wp2_with (fail)
          exact RelEnd.mk rfl (Below.refl _ _) rfl
        case refine_7 =>
          (try (obtain ⟨d0, hd⟩ := hd; (try (obtain ⟨d1, hd⟩ := hd; (try (obtain ⟨d2, hd⟩ := hd))))))
          rw [HFR.out]
          go_wp2_with (fail)
          exact RelEnd.mk rfl (Below.refl _ _) rfl
        case refine_8 =>
          (try (obtain ⟨d0, hd⟩ := hd; (try (obtain ⟨d1, hd⟩ := hd; (try (obtain ⟨d2, hd⟩ := hd))))))
          rw [HFR.out]
          have c1 := (L3.out.rr.below hb7).eN
          go_wp2_with (fail)
          exact RelEnd.mk rfl (Below.refl _ _) rfl
        case refine_9 =>
          (try (obtain ⟨d0, hd⟩ := hd; (try (obtain ⟨d1, hd⟩ := hd; (try (obtain ⟨d2, hd⟩ := hd))))))
          rw [HFR.out]
          go_wp2_with (fail)
          exact RelEnd.mk rfl (Below.refl _ _) rfl
        case refine_10 =>
          (try (obtain ⟨d0, hd⟩ := hd; (try (obtain ⟨d1, hd⟩ := hd; (try (obtain ⟨d2, hd⟩ := hd))))))
          rw [HFR.out]
          go_wp2_with (fail)
          exact RelEnd.mk rfl (Below.refl _ _) rfl
        case refine_11 =>
          (try (obtain ⟨d0, hd⟩ := hd; (try (obtain ⟨d1, hd⟩ := hd; (try (obtain ⟨d2, hd⟩ := hd))))))
          rw [HFR.out]
          go_wp2_with (fail)
          exact RelEnd.mk rfl (Below.refl _ _) rfl
        case refine_12 =>
          (try (obtain ⟨d0, hd⟩ := hd; (try (obtain ⟨d1, hd⟩ := hd; (try (obtain ⟨d2, hd⟩ := hd))))))
          rw [HFR.out]
          go_wp2_with (fail)
          exact RelEnd.mk rfl (Below.refl _ _) rfl
        case refine_13 =>
          (try (obtain ⟨d0, hd⟩ := hd; (try (obtain ⟨d1, hd⟩ := hd; (try (obtain ⟨d2, hd⟩ := hd))))))
          rw [HFR.out]
          go_wp2_with (go_at_call 20; refine (c_octet_Left' (some g) _ _ (L3.out.rp.below hb7)).mono ?_; rintro e4 w5 ⟨rfl, hb5⟩)
          exact RelEnd.mk rfl hb5 rfl
        case refine_14 =>
          (try (obtain ⟨d0, hd⟩ := hd; (try (obtain ⟨d1, hd⟩ := hd; (try (obtain ⟨d2, hd⟩ := hd))))))
          rw [HFR.out]
          go_wp2_with (fail)
          exact RelEnd.mk rfl (Below.refl _ _) rfl
        case refine_15 =>
          (try (obtain ⟨d0, hd⟩ := hd; (try (obtain ⟨d1, hd⟩ := hd; (try (obtain ⟨d2, hd⟩ := hd))))))
          rw [HFR.out]
          go_wp2_with (fail)
          exact RelEnd.mk rfl (Below.refl _ _) rfl
        case refine_16 =>
          (try (obtain ⟨d0, hd⟩ := hd; (try (obtain ⟨d1, hd⟩ := hd; (try (obtain ⟨d2, hd⟩ := hd))))))
          rw [HFR.out]
          go_wp2_with (fail)
          exact RelEnd.mk rfl (Below.refl _ _) rfl
        case refine_17 =>
          (try (obtain ⟨d0, hd⟩ := hd; (try (obtain ⟨d1, hd⟩ := hd; (try (obtain ⟨d2, hd⟩ := hd))))))
          rw [HFR.out]
          have c0 := (L3.out.rr.below hb7).sN
          go_wp2_with (fail)
          exact RelEnd.mk rfl (Below.refl _ _) rfl
        case refine_18 =>
          (try (obtain ⟨d0, hd⟩ := hd; (try (obtain ⟨d1, hd⟩ := hd; (try (obtain ⟨d2, hd⟩ := hd))))))
          rw [HFR.out]
          go_wp2_with (fail)
          exact RelEnd.mk rfl (Below.refl _ _) rfl
        case refine_19 =>
          (try (obtain ⟨d0, hd⟩ := hd; (try (obtain ⟨d1, hd⟩ := hd; (try (obtain ⟨d2, hd⟩ := hd))))))
          rw [HFR.out]
          go_wp2_with (fail)
          exact RelEnd.mk rfl (Below.refl _ _) rfl
        case refine_20 =>
          (try (obtain ⟨d0, hd⟩ := hd; (try (obtain ⟨d1, hd⟩ := hd; (try (obtain ⟨d2, hd⟩ := hd))))))
          rw [HFR.out]
          go_wp2_with (fail)
          exact RelEnd.mk rfl (Below.refl _ _) rfl
      · intro u w7 hb7 hold
        simp only [RelHold, Sp.eq_holds, Nat.reduceAdd] at hold
        obtain ⟨-, -, -, -, -, -, -, -, -, -, -, -, -, -, -, -, -, -, -, -, -, -, -, dL, -⟩ := hold
        simp only [putAll, Act.put, Nat.reduceAdd, List.setIfInBounds_toArray, List.set_cons_zero, List.set_cons_succ, dL]
        have L7 := Lib.hid (L3.out.step hb7)
        clear hb7 L3
        have h4 : k < 4 := HLT.out
        go_wp2_with (fail)
        go_roundw
        case rel => exact ⟨k + 1, rdTok' st, by omega, by go_num, L7.out⟩
        case measure => simp [intOf]; omega
    · have hd : decide ((k : Int) < 4) = false := by simp; omega
      have B1 := Lib.hid L1.out.below
      have hz1 := B1.out.size
      clear hlt hk3 L1
      go_wp2_with (fail)
      refine (c_token_Read none ⟨[], 1⟩ _ (RdP.nilmk _)).mono ?_
      rintro e w2 ⟨rfl, -, hk2⟩
      have hb2 : Below _ _ w2 := hk2.below (Nat.le_refl _) (fun _ h => by cases h)
      rw [(rdTok_err (st := ⟨[], 1⟩) (by decide)).1]
      replace B1 := Lib.hid (B1.out.trans (hb2.mono hz1))
      clear hk2 hb2 hz1
      have hz2 := B1.out.size
      go_wp2_with (with_reducible refine stop_bin .eql 47 (.tmp 44) (.tmp 45) 47 rfl ?_)
      refine Stop.mk (wpList_eqlS (by rfl) _ _ _ _ rfl tz.arr tz.arr rfl rfl gT true ((eq_tok 9998 tz tz _).trans (by simp)) ?_)
      go_wp2_with (fail)
      refine (c_law26_awake _ (HP.out.below B1.out)).mono ?_
      rintro e w9 ⟨rfl, hb9⟩
      go_wp2_with (fail)
      go_ret
      exact RetV.bool rfl (B1.out.trans (hb9.mono hz2))
end Go.Proofs.YtjhndilflcigiaaDoor
