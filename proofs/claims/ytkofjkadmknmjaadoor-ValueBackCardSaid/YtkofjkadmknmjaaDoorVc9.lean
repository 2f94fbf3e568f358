/-
  Lemmas (walks and plain laws), in one text.
-/
import Derived.Test.YtkofjkadmknmjaaDoorVc8
import Derived.Test.YtkofjkadmknmjaaDoorRows
import Derived.WalkKit
import Derived.WalkSpells
import Derived.WalkLawsBesides
import Derived.Lib.Hide
import Derived.Deep.QuietTactic
import Derived.BigQuiet
import Derived.Maps.AppendAt
import Derived.WalkSmall
import Derived.ProofKit
import Derived.OpenShut
import Derived.JoinedCond
import Derived.Deep.Slices
import Derived.Deep.Fields
import Derived.Carry
import Derived.Shelf.Small.Wraps
import Derived.Shelf.Utf8.RuneCount
import Derived.Shelf.Strconv.Itoa0
import Derived.Shelf.Strconv.Itoa1
import Derived.Shelf.LaysM
import Derived.Shelf.Strconv.Itoa2
import Derived.Shelf.Strconv.Itoa3
import Derived.Shelf.Strings.Search1
import Derived.Shelf.Strings.Search2
import Derived.Shelf.Strings.Search3
import Derived.Shelf.Strings.Count
import Derived.Shelf.Strings.Shaped
import Derived.Shelf.Strings.Prefix
import Derived.Shelf.Strings.Split
import Derived.Shelf.Strings.SplitShaped
import Derived.Shelf.Unicode.DecodeSlow
import Derived.Test.YtkofjkadmknmjaaDoorProg
import Derived.Deep.AppendSrc
import Derived.Lib.AppendStr
import Derived.Laws.BytesArg
import Derived.Lib.AppendIntMem
import Derived.Lib.ItoaLen
import Derived.Test.YtkofjkadmknmjaaDoorTie
import Derived.Lib.LaidTab
import Derived.LaidMore
import Derived.Stop.LaidErr
import Derived.SevenTiedAt
import Derived.HandedShaped
import Derived.Test.YtkofjkadmknmjaaDoorCards
import Derived.Deep.CutBlock
import Derived.Deep.DeepCutAuto
import Derived.Laws.IdiomStrings
import Derived.Outline
import Derived.IntWalk
import Derived.StillTail
import Derived.Laws.Tables
import Derived.Laws.Rows
import Derived.ChangeKeysEq
import Derived.Laws.StructEq
import Derived.Lib.AppendZeros
import Derived.Deep.Quiet
import Derived.OwnWalk
import Derived.Lib.TrailingZeros
import Derived.Lib.SplitLaws
import Derived.Lib.ItoaNum
import Derived.Shelf.Strings.PiecesUse
namespace Go.Proofs.YtkofjkadmknmjaaDoor
open Go.RowKit

theorem Src.newN (W : World) (news : List Value) (e : TypeId) (m size : Nat) (hl : news.length = m * size) : Src (W.alloc (.cells news.toArray e)) (some ⟨W.heap.size, 0, none⟩) m size news := by
  refine ⟨hl, fun _ => ⟨_, rfl, fun j u hu => ?_⟩⟩
  rw [add_lit, World.cell?_alloc_new]
  simpa using hu
/-- The cells that an append takes, as a property of the slice that holds them. -/
def Sp.src (m size : Nat) (news : List Value) : Sp := ⟨fun v w => ∃ A c, v = .slice A m c ∧ Src w A m size news, fun _ _ _ ⟨A, c, hv, h⟩ hb => ⟨A, c, hv, h.below hb⟩⟩
theorem Sp.src_holds (m size : Nat) (news : List Value) (v : Value) (w : World) : (Sp.src m size news).holds v w = ∃ A c, v = .slice A m c ∧ Src w A m size news := rfl
theorem and15 (c : UInt8) : bits BinOp.and IntKind.u8 (c.toNat : Int) 15 = ((c.toNat % 16 : Nat) : Int) := by
  have : ∀ a : Fin 256, bits BinOp.and IntKind.u8 (a.val : Int) 15 = ((a.val % 16 : Nat) : Int) := by decide +kernel
  exact this ⟨c.toNat, c.toNat_lt⟩
theorem digits_at {n : Nat} (h : n < 16) : ([48, 49, 50, 51, 52, 53, 54, 55, 56, 57, 97, 98, 99, 100, 101, 102] : List UInt8)[n]'(by simpa using h) = hexD n := by
  have : ∀ a : Fin 16, ([48, 49, 50, 51, 52, 53, 54, 55, 56, 57, 97, 98, 99, 100, 101, 102] : List UInt8)[a.val]'(by simp) = hexD a.val := by decide
  exact this ⟨n, h⟩
theorem run_digits (w : World) (k : IntKind) (n : Nat) (h : n < 16) : (Instr.index 9 (.string (str [48, 49, 50, 51, 52, 53, 54, 55, 56, 57, 97, 98, 99, 100, 101, 102])) (.int k n)).run Tryd.prog w = .ok (.int .u8 (hexD n).toNat) w := by
  have hi : (0 : Int) ≤ (n : Int) ∧ (n : Int) < ((str [48, 49, 50, 51, 52, 53, 54, 55, 56, 57, 97, 98, 99, 100, 101, 102]).size : Int) := by rw [str_size]; simp; omega
  rw [run_index_string w 9 _ k n Tryd.underlying9, dif_pos hi]
  simp only [str_getElem, Int.toNat_natCast]
  rw [digits_at h]
set_option maxHeartbeats 4000000 in
set_option maxRecDepth 4000 in
theorem c_value_Quote (s : List UInt8) (w : World) (hs : s.length ≤ 1000000) : Calls Tryd.prog 26 #[.string (str s)] w (RetV w (.string (str (quote s)))) := by
  obtain ⟨i, z, hie, hz0, hz1, hz2, hz3⟩ := elemB.info
  go_enter Tryd.func26, Tryd.ntmps26
  go_wp2_with (at_make; refine Stop.out ?_)
  refine Stop.mk (wpList_make_own _ rfl _ (.tmp 8) 63 rfl w.heap.size 5 i z 1 Tryd.underlying63 hie hz0 hz1 _ _ _ (s.length + 2) rfl rfl (by push_cast; rfl) (by rw [hz2]; omega) (by unfold maxLen; omega) (Nat.le_refl _) ?_)
  intro w1 own1 g1
  have hb1 : Below w.heap.size w w1 := grown_below g1 (Nat.le_refl _) (fun k hk => by cases hk)
  have hzw := hb1.size
  go_wp2_with ((at_builtin; refine Stop.out ?_))
  refine Stop.mk (wpList_app _ rfl _ _ elemB rfl w.heap.size _ 0 _ rfl (own_below own1 ((Below.refl _ _).alloc (Nat.le_refl _) _)) _ 1 1 (bc 34) rfl (Src.new _ (bc 34) _ 1 rfl) (by simp [bc, Value.oneCell']) (by omega) (by simp; omega) ?_)
  intro v2 w2 own2 _ hb2 _
  have B2 := Lib.hid (hb1.trans ((((Below.refl _ _).alloc hzw _)).trans hb2))
  have O2 := Lib.hid (show w2.ownsRow w.heap.size 5 1 v2 ([34] : List UInt8).length (([34] : List UInt8).flatMap bc) by simpa using own2)
  clear own1 own2 hb1 hb2 g1
  go_wp2_with (fail)
  go_loopw [3, 4] (fun t i wr => ∃ (k : Nat) (acc : List UInt8), k ≤ s.length ∧ i = .int .i64 k ∧ Hid (wr.ownsRow w.heap.size 5 1 t acc.length (acc.flatMap bc)) ∧ Hid (QuoAt s acc k) ∧ Hid (Below w.heap.size w wr)) (fun _ i _ => s.length - (intOf i).toNat)
  case atStart => exact ⟨0, [34], by omega, rfl, O2.out, ⟨rfl, by simp⟩, B2.out⟩
  case round =>
    obtain ⟨k, acc, hk, rfl, O, Q, B1⟩ := hrel
    obtain ⟨A9, c9, rfl, -, -⟩ := own_form O.out
    have hz := B1.out.size
    have ha := Q.out.2
    by_cases hlt : k < s.length
    · have d1 : decide (k < s.length) = true := by simpa using hlt
      have U2 := Lib.hid (Q.out.step hlt)
      have hc := s[k].toNat_lt
      obtain ⟨x, hx⟩ : ∃ x, x = s[k] := ⟨_, rfl⟩
      replace U2 := Lib.hid (by have := U2.out; rw [← hx] at this; exact this)
      have HX := Lib.hid hx
      have ex : s[k].toNat = x.toNat := by rw [hx]
      rw [← hx] at hc
      clear hx Q
      by_cases g1 : x.toNat < 32 ∨ 126 < x.toNat
      · have QQ := Lib.hid (quC_hex g1)
        replace U2 := Lib.hid (by have := U2.out; rw [QQ.out] at this; exact this)
        have hhi : x.toNat / 16 < 16 := by omega
        have hlo : x.toNat % 16 < 16 := by omega
        obtain ⟨hi, ehi⟩ : ∃ n, x.toNat / 16 = n := ⟨_, rfl⟩
        obtain ⟨lo, elo⟩ : ∃ n, x.toNat % 16 = n := ⟨_, rfl⟩
        rw [ehi] at hhi
        rw [elo] at hlo
        have HI := Lib.hid ehi
        have LO := Lib.hid elo
        replace U2 := Lib.hid (by have := U2.out; rw [ehi, elo] at this; exact this)
        clear ehi elo
        have j : (decide ((x.toNat : Int) < 32) || decide ((126 : Int) < (x.toNat : Int))) = true := by simp; omega
        cases j1 : decide ((x.toNat : Int) < 32)
        · have j2 : decide ((126 : Int) < (x.toNat : Int)) = true := by rw [j1] at j; simpa using j
          clear g1 j
          go_wp2_with (fail)
          refine wp_region_relT [Sp.eq (.slice A9 acc.length c9), Sp.eq (.int .u8 x.toNat), Sp.eq (.int .u8 hi), Sp.eq (.int .u8 (hexD hi).toNat), Sp.eq (.int .u8 x.toNat), Sp.eq (.int .u8 lo), Sp.eq (.int .u8 (hexD lo).toNat), Sp.src 4 1 (([92, 120, hexD hi, hexD lo] : List UInt8).flatMap bc)] 56 8 (by kernel_rfl) (by decide) (by kernel_rfl) (by kernel_rfl) (by kernel_rfl) (by kernel_rfl) rfl rfl ?_ ?_
          · refine ⟨?_, ?_, ?_, ?_, ?_, ?_, ?_, ?_, trivial⟩
            all_goals (intro u w2 hb2 hd; simp [Deps, Region.binds, Sp.eq_holds] at hd; simp only [putDeps, dstOf, Region.binds])
            case refine_1 => go_wp2_with (fail); exact RelEnd.mk rfl (Below.refl _ _) rfl
            case refine_2 => go_wp2_with (fail); exact RelEnd.mk rfl (Below.refl _ _) rfl
            case refine_3 =>
              go_wp2_with (fail)
              refine RelEnd.mk rfl (Below.refl _ _) ?_
              exact congrArg (Value.int .u8) (show ((x.toNat : Int) / 16) = (hi : Int) by have := HI.out; omega)
            case refine_4 =>
              have ke := run_digits w2 .u8 hi (by omega)
              go_wp2_with (fail)
              exact RelEnd.mk rfl (Below.refl _ _) rfl
            case refine_5 => go_wp2_with (fail); exact RelEnd.mk rfl (Below.refl _ _) rfl
            case refine_6 =>
              have ke := and15 x
              rw [LO.out] at ke
              go_wp2_with (fail)
              exact RelEnd.mk rfl (Below.refl _ _) rfl
            case refine_7 =>
              have ke := run_digits w2 .u8 lo (by omega)
              go_wp2_with (fail)
              exact RelEnd.mk rfl (Below.refl _ _) rfl
            case refine_8 =>
              go_wp2_with (fail)
              refine RelEnd.mk rfl (by repeat (first | exact Below.refl _ _ | refine Below.drew ?_ | refine Below.alloc ?_ (by first | omega | (simp; done) | (simp; omega)) _ | refine Below.setCell ?_ (by first | omega | (simp; done) | (simp; omega)) _ | refine Below.trans ?_ (Below.mono (by assumption) (by first | omega | (simp; done) | (simp; omega))))) ?_
              exact ⟨_, _, rfl, Src.newN w2 _ _ 4 1 rfl⟩
          · intro u w2 hb2 hold
            simp only [RelHold, Sp.eq_holds, Sp.src_holds] at hold
            obtain ⟨d0, -, -, -, -, -, -, ⟨A7, c7, d7, hsrc⟩, -⟩ := hold
            simp only [List.drop, List.take, putAll, Act.put, Nat.reduceAdd, List.setIfInBounds_toArray, List.set_cons_zero, List.set_cons_succ]
            have hz2 := hb2.size
            rw [d0, d7]
            refine wpList_app _ rfl _ _ elemB rfl w.heap.size (.slice A9 acc.length c9) acc.length (acc.flatMap bc) rfl (own_below O.out hb2) A7 4 c7 (([92, 120, hexD hi, hexD lo] : List UInt8).flatMap bc) rfl hsrc (by simp [bc, Value.oneCell']) (by omega) (by omega) ?_
            intro v4 w4 own4 _ hb4 _
            have B4 := Lib.hid (B1.out.trans ((hb2.mono hz).trans hb4))
            have O4 := Lib.hid (show w4.ownsRow w.heap.size 5 1 v4 ((acc ++ [92, 120, hexD hi, hexD lo]).length) ((acc ++ [92, 120, hexD hi, hexD lo]).flatMap bc) by rw [List.length_append, List.flatMap_append]; exact own4)
            clear own4 hb4 hb2 O B1 d0 d7 hsrc
            go_wp2_with (fail)
            go_roundw
            case rel => exact ⟨k + 1, _, by omega, by go_num, O4.out, U2.out, B4.out⟩
            case measure => simp [intOf]; omega
        · clear g1 j
          go_wp2_with (fail)
          refine wp_region_relT [Sp.eq (.slice A9 acc.length c9), Sp.eq (.int .u8 x.toNat), Sp.eq (.int .u8 hi), Sp.eq (.int .u8 (hexD hi).toNat), Sp.eq (.int .u8 x.toNat), Sp.eq (.int .u8 lo), Sp.eq (.int .u8 (hexD lo).toNat), Sp.src 4 1 (([92, 120, hexD hi, hexD lo] : List UInt8).flatMap bc)] 56 8 (by kernel_rfl) (by decide) (by kernel_rfl) (by kernel_rfl) (by kernel_rfl) (by kernel_rfl) rfl rfl ?_ ?_
          · refine ⟨?_, ?_, ?_, ?_, ?_, ?_, ?_, ?_, trivial⟩
            all_goals (intro u w2 hb2 hd; simp [Deps, Region.binds, Sp.eq_holds] at hd; simp only [putDeps, dstOf, Region.binds])
            case refine_1 => go_wp2_with (fail); exact RelEnd.mk rfl (Below.refl _ _) rfl
            case refine_2 => go_wp2_with (fail); exact RelEnd.mk rfl (Below.refl _ _) rfl
            case refine_3 =>
              go_wp2_with (fail)
              refine RelEnd.mk rfl (Below.refl _ _) ?_
              exact congrArg (Value.int .u8) (show ((x.toNat : Int) / 16) = (hi : Int) by have := HI.out; omega)
            case refine_4 =>
              have ke := run_digits w2 .u8 hi (by omega)
              go_wp2_with (fail)
              exact RelEnd.mk rfl (Below.refl _ _) rfl
            case refine_5 => go_wp2_with (fail); exact RelEnd.mk rfl (Below.refl _ _) rfl
            case refine_6 =>
              have ke := and15 x
              rw [LO.out] at ke
              go_wp2_with (fail)
              exact RelEnd.mk rfl (Below.refl _ _) rfl
            case refine_7 =>
              have ke := run_digits w2 .u8 lo (by omega)
              go_wp2_with (fail)
              exact RelEnd.mk rfl (Below.refl _ _) rfl
            case refine_8 =>
              go_wp2_with (fail)
              refine RelEnd.mk rfl (by repeat (first | exact Below.refl _ _ | refine Below.drew ?_ | refine Below.alloc ?_ (by first | omega | (simp; done) | (simp; omega)) _ | refine Below.setCell ?_ (by first | omega | (simp; done) | (simp; omega)) _ | refine Below.trans ?_ (Below.mono (by assumption) (by first | omega | (simp; done) | (simp; omega))))) ?_
              exact ⟨_, _, rfl, Src.newN w2 _ _ 4 1 rfl⟩
          · intro u w2 hb2 hold
            simp only [RelHold, Sp.eq_holds, Sp.src_holds] at hold
            obtain ⟨d0, -, -, -, -, -, -, ⟨A7, c7, d7, hsrc⟩, -⟩ := hold
            simp only [List.drop, List.take, putAll, Act.put, Nat.reduceAdd, List.setIfInBounds_toArray, List.set_cons_zero, List.set_cons_succ]
            have hz2 := hb2.size
            rw [d0, d7]
            refine wpList_app _ rfl _ _ elemB rfl w.heap.size (.slice A9 acc.length c9) acc.length (acc.flatMap bc) rfl (own_below O.out hb2) A7 4 c7 (([92, 120, hexD hi, hexD lo] : List UInt8).flatMap bc) rfl hsrc (by simp [bc, Value.oneCell']) (by omega) (by omega) ?_
            intro v4 w4 own4 _ hb4 _
            have B4 := Lib.hid (B1.out.trans ((hb2.mono hz).trans hb4))
            have O4 := Lib.hid (show w4.ownsRow w.heap.size 5 1 v4 ((acc ++ [92, 120, hexD hi, hexD lo]).length) ((acc ++ [92, 120, hexD hi, hexD lo]).flatMap bc) by rw [List.length_append, List.flatMap_append]; exact own4)
            clear own4 hb4 hb2 O B1 d0 d7 hsrc
            go_wp2_with (fail)
            go_roundw
            case rel => exact ⟨k + 1, _, by omega, by go_num, O4.out, U2.out, B4.out⟩
            case measure => simp [intOf]; omega
      · have j1 : decide ((x.toNat : Int) < 32) = false := by simp; omega
        have j2 : decide ((126 : Int) < (x.toNat : Int)) = false := by simp; omega
        by_cases g2 : x.toNat = 34 ∨ x.toNat = 92
        · have QQ := Lib.hid (quC_esc g1 g2)
          replace U2 := Lib.hid (by have := U2.out; rw [QQ.out] at this; exact this)
          have j : (((x.toNat : Int) == 34) || ((x.toNat : Int) == 92)) = true := by simp; omega
          cases j3 : ((x.toNat : Int) == 34)
          · have j4 : ((x.toNat : Int) == 92) = true := by rw [j3] at j; simpa using j
            clear g1 g2 j
            go_wp2_with ((at_builtin; refine Stop.out ?_))
            refine Stop.mk (wpList_app _ rfl _ _ elemB rfl w.heap.size _ acc.length _ rfl (own_below O.out ((Below.refl _ _).alloc (Nat.le_refl _) _)) _ 1 1 (bc 92) rfl (Src.new _ (bc 92) _ 1 rfl) (by simp [bc, Value.oneCell']) (by omega) (by have := B1.out.size; simp; omega) ?_)
            intro v4 w4 own4 _ hb4 _
            have B4 := Lib.hid (B1.out.trans ((((Below.refl _ _).alloc hz _)).trans hb4))
            have O4 := Lib.hid (show w4.ownsRow w.heap.size 5 1 v4 ((acc ++ [92]).length) ((acc ++ [92]).flatMap bc) by simpa using own4)
            clear own4 hb4 O B1
            obtain ⟨A10, c10, rfl, -, -⟩ := own_form O4.out
            have hz4 := B4.out.size
            have O6 := Lib.hid (show w4.ownsRow w.heap.size 5 1 (.slice A10 (acc.length + 1) c10) (acc.length + 1) ((acc ++ [92]).flatMap bc) by simpa using O4.out)
            go_wp2_with ((at_builtin; refine Stop.out ?_))
            refine Stop.mk (wpList_app _ rfl _ _ elemB rfl w.heap.size _ (acc.length + 1) _ rfl (own_below O6.out ((Below.refl _ _).alloc (Nat.le_refl _) _)) _ 1 1 (bc x) rfl (Src.new _ (bc x) _ 1 rfl) (by simp [bc, Value.oneCell']) (by omega) (by simp; omega) ?_)
            intro v5 w5 own5 _ hb5 _
            have B5 := Lib.hid (B4.out.trans ((((Below.refl _ _).alloc hz4 _)).trans hb5))
            have O5 := Lib.hid (show w5.ownsRow w.heap.size 5 1 v5 ((acc ++ [92, x]).length) ((acc ++ [92, x]).flatMap bc) by simpa using own5)
            clear own5 hb5 O4 O6 B4
            go_wp2_with (fail)
            go_roundw
            case rel => exact ⟨k + 1, acc ++ [92, x], by omega, by go_num, O5.out, U2.out, B5.out⟩
            case measure => simp [intOf]; omega
          · clear g1 g2 j
            go_wp2_with ((at_builtin; refine Stop.out ?_))
            refine Stop.mk (wpList_app _ rfl _ _ elemB rfl w.heap.size _ acc.length _ rfl (own_below O.out ((Below.refl _ _).alloc (Nat.le_refl _) _)) _ 1 1 (bc 92) rfl (Src.new _ (bc 92) _ 1 rfl) (by simp [bc, Value.oneCell']) (by omega) (by have := B1.out.size; simp; omega) ?_)
            intro v4 w4 own4 _ hb4 _
            have B4 := Lib.hid (B1.out.trans ((((Below.refl _ _).alloc hz _)).trans hb4))
            have O4 := Lib.hid (show w4.ownsRow w.heap.size 5 1 v4 ((acc ++ [92]).length) ((acc ++ [92]).flatMap bc) by simpa using own4)
            clear own4 hb4 O B1
            obtain ⟨A10, c10, rfl, -, -⟩ := own_form O4.out
            have hz4 := B4.out.size
            have O6 := Lib.hid (show w4.ownsRow w.heap.size 5 1 (.slice A10 (acc.length + 1) c10) (acc.length + 1) ((acc ++ [92]).flatMap bc) by simpa using O4.out)
            go_wp2_with ((at_builtin; refine Stop.out ?_))
            refine Stop.mk (wpList_app _ rfl _ _ elemB rfl w.heap.size _ (acc.length + 1) _ rfl (own_below O6.out ((Below.refl _ _).alloc (Nat.le_refl _) _)) _ 1 1 (bc x) rfl (Src.new _ (bc x) _ 1 rfl) (by simp [bc, Value.oneCell']) (by omega) (by simp; omega) ?_)
            intro v5 w5 own5 _ hb5 _
            have B5 := Lib.hid (B4.out.trans ((((Below.refl _ _).alloc hz4 _)).trans hb5))
            have O5 := Lib.hid (show w5.ownsRow w.heap.size 5 1 v5 ((acc ++ [92, x]).length) ((acc ++ [92, x]).flatMap bc) by simpa using own5)
            clear own5 hb5 O4 O6 B4
            go_wp2_with (fail)
            go_roundw
            case rel => exact ⟨k + 1, acc ++ [92, x], by omega, by go_num, O5.out, U2.out, B5.out⟩
            case measure => simp [intOf]; omega
        · have QQ := Lib.hid (quC_one g1 g2)
          replace U2 := Lib.hid (by have := U2.out; rw [QQ.out] at this; exact this)
          have j3 : ((x.toNat : Int) == 34) = false := by simp; omega
          have j4 : ((x.toNat : Int) == 92) = false := by simp; omega
          clear g1 g2
          go_wp2_with ((at_builtin; refine Stop.out ?_))
          refine Stop.mk (wpList_app _ rfl _ _ elemB rfl w.heap.size _ acc.length _ rfl (own_below O.out ((Below.refl _ _).alloc (Nat.le_refl _) _)) _ 1 1 (bc x) rfl (Src.new _ (bc x) _ 1 rfl) (by simp [bc, Value.oneCell']) (by omega) (by have := B1.out.size; simp; omega) ?_)
          intro v4 w4 own4 _ hb4 _
          have B4 := Lib.hid (B1.out.trans ((((Below.refl _ _).alloc hz _)).trans hb4))
          have O4 := Lib.hid (show w4.ownsRow w.heap.size 5 1 v4 ((acc ++ [x]).length) ((acc ++ [x]).flatMap bc) by simpa using own4)
          clear own4 hb4 O B1
          go_wp2_with (fail)
          go_roundw
          case rel => exact ⟨k + 1, acc ++ [x], by omega, by go_num, O4.out, U2.out, B4.out⟩
          case measure => simp [intOf]; omega
    · obtain rfl : k = s.length := by omega
      have QE := Lib.hid (show acc ++ [34] = quote s by have := Q.out.1; rw [List.drop_length] at this; simpa using this)
      have d1 : decide (s.length < s.length) = false := by simp
      clear Q hlt
      go_wp2_with ((at_builtin; refine Stop.out ?_))
      refine Stop.mk (wpList_app _ rfl _ _ elemB rfl w.heap.size _ acc.length _ rfl (own_below O.out ((Below.refl _ _).alloc (Nat.le_refl _) _)) _ 1 1 (bc 34) rfl (Src.new _ (bc 34) _ 1 rfl) (by simp [bc, Value.oneCell']) (by omega) (by have := B1.out.size; simp; omega) ?_)
      intro v4 w4 own4 _ hb4 _
      have B4 := Lib.hid (B1.out.trans ((((Below.refl _ _).alloc hz _)).trans hb4))
      have O4 := Lib.hid (show w4.ownsRow w.heap.size 5 1 v4 ((acc ++ [34]).length) ((acc ++ [34]).flatMap bc) by simpa using own4)
      clear own4 hb4 O B1
      obtain ⟨A10, c10, rfl, -, -⟩ := own_form O4.out
      have kc := conv_str (P := Tryd.prog) w4 Tryd.underlying63 Tryd.underlying5 Tryd.underlying9 (In.of_ownB (A := A10) (c := c10) O4.out (by simp; omega))
      simp only [List.length_append, List.length_cons, List.length_nil, Nat.zero_add] at kc
      go_wp2_with (fail)
      go_ret
      exact RetV.str QE.out B4.out

end Go.Proofs.YtkofjkadmknmjaaDoor
namespace Go.Proofs.YtkofjkadmknmjaaDoor

/-! The decimal numeral of the library. -/
theorem decDigits_tens (n : Nat) : Go.Lib.decDigits n = tens n := by
  induction n using Nat.strongRecOn with
  | _ n ih =>
    unfold Go.Lib.decDigits
    by_cases h : n < 10
    · rw [dif_pos h, tens_lt h]
    · rw [dif_neg h, tens_ge h, ih (n / 10) (by omega)]
theorem itoa_nat (n : Nat) : Go.Lib.itoa (n : Int) = tens n := by
  unfold Go.Lib.itoa
  rw [if_neg (by omega), decDigits_tens, Int.toNat_natCast]
/-! Texts cut at a byte. -/
def consHead (p : List UInt8) : List (List UInt8) → List (List UInt8)
  | [] => [p]
  | q :: r => (p ++ q) :: r
def cuts (c : UInt8) : List UInt8 → List (List UInt8)
  | [] => [[]]
  | x :: s => if x = c then [] :: cuts c s else consHead [x] (cuts c s)
theorem cuts_ne (c : UInt8) (s : List UInt8) : cuts c s ≠ [] := by
  cases s with
  | nil => simp [cuts]
  | cons x s =>
    unfold cuts
    split
    · simp
    · cases cuts c s <;> simp [consHead]
theorem consHead_two (p q : List UInt8) (l : List (List UInt8)) (h : l ≠ []) : consHead p (consHead q l) = consHead (p ++ q) l := by
  cases l with
  | nil => exact absurd rfl h
  | cons a r => simp [consHead]
theorem consHead_nil (l : List (List UInt8)) (h : l ≠ []) : consHead [] l = l := by
  cases l with
  | nil => exact absurd rfl h
  | cons a r => simp [consHead]
/-- What is cut so far of a text, up to a place. -/
def CutAt (c : UInt8) (t : List UInt8) (ps : List (List UInt8)) (f i : Nat) : Prop := f ≤ i ∧ i ≤ t.length ∧ cuts c t = ps ++ consHead ((t.drop f).take (i - f)) (cuts c (t.drop i))
theorem CutAt.start (c : UInt8) (t : List UInt8) : CutAt c t [] 0 0 := ⟨Nat.le_refl _, Nat.zero_le _, by simp [consHead_nil _ (cuts_ne c t)]⟩
theorem CutAt.next {c : UInt8} {t : List UInt8} {ps : List (List UInt8)} {f i : Nat} (h : CutAt c t ps f i) (hi : i < t.length) (hc : t[i] ≠ c) : CutAt c t ps f (i + 1) := by
  have h1 := h.1
  refine ⟨by omega, hi, ?_⟩
  rw [h.2.2, List.drop_eq_getElem_cons hi, cuts, if_neg hc, consHead_two _ _ _ (cuts_ne _ _)]
  congr 2
  rw [show i + 1 - f = (i - f) + 1 by omega, List.take_succ_eq_append_getElem (by rw [List.length_drop]; omega), List.getElem_drop]
  congr 3
  omega
theorem CutAt.done {c : UInt8} {t : List UInt8} {ps : List (List UInt8)} {f : Nat} (h : CutAt c t ps f t.length) : cuts c t = ps ++ [t.drop f] := by
  rw [h.2.2, List.drop_length, List.take_of_length_le (by rw [List.length_drop]; exact Nat.le_refl _)]
  simp [cuts, consHead]
/-! Texts of sets. -/
/-! Numbers are read of their texts. -/
end Go.Proofs.YtkofjkadmknmjaaDoor
namespace Go.Proofs.YtkofjkadmknmjaaDoor
open Go.RowKit

/-- internal/bytealg.MaxLen holds some number. -/
def MaxV (w : World) : Prop := ∃ m, w.cell? ⟨1, 0, none⟩ = some (.int .i64 m)
theorem MaxV.of {w : World} (h : w.ShapedOpen Tryd.prog) : MaxV w := Tryd.laysM143.s1_3 w h
theorem MaxV.below {w w' : World} (h : MaxV w) (hb : Below w.heap.size w w') : MaxV w' := by
  obtain ⟨m, hm⟩ := h
  exact ⟨m, (hb.cell (p := ⟨_, 0, none⟩) (World.block_lt_of_cell? w _ hm)).trans hm⟩
theorem c_Contains (a b : List UInt8) (w : World) (hM : MaxV w) (ha : a.length < 4294967281) : Calls Tryd.prog 73 #[.string (str a), .string (str b)] w (RetV w (.bool (Lib.contains a b))) := by
  obtain ⟨m, hm⟩ := hM
  exact (Tryd.strings_Contains (str a) (str b) m w (by rw [str_size]; exact ha) hm).mono fun _ _ ⟨he, hw⟩ => ⟨he, by rw [hw]; exact Below.refl _ _⟩
end Go.Proofs.YtkofjkadmknmjaaDoor
