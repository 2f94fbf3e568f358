/-
  The walks of the reference's texts of tokens: a text cut at dots, Show, Parse.
-/
import Derived.Test.YtfgjhgecmelccaaDoorTt9
import Derived.Test.YtfgjhgecmelccaaDoorRows
import Derived.WalkKit
import Derived.WalkSpells
import Derived.WalkLawsBesides
import Derived.Lib.Hide
import Derived.Deep.QuietTactic
import Derived.BigQuiet
import Derived.Maps.AppendAt
import Derived.WalkSmall
import Derived.ProofKit
import Derived.OpenShut
import Derived.JoinedCond
import Derived.Deep.Slices
import Derived.Deep.Fields
import Derived.Carry
import Derived.HandedShaped
import Derived.Shelf.Strings.Builder1
import Derived.Shelf.Strings.Builder2
import Derived.Shelf.Strings.OnBuilder
import Derived.Shelf.Small.Wraps
import Derived.Shelf.Utf8.RuneCount
import Derived.Shelf.Strconv.Itoa0
import Derived.Shelf.Strconv.Itoa1
import Derived.Shelf.LaysM
import Derived.Shelf.Strconv.Itoa2
import Derived.Shelf.Strconv.Itoa3
import Derived.Shelf.Strings.Search1
import Derived.Shelf.Strings.Search2
import Derived.Shelf.Strings.Search3
import Derived.Shelf.Strings.Count
import Derived.Shelf.Strings.Shaped
import Derived.Shelf.Strings.Split
import Derived.Shelf.Strings.SplitShaped
import Derived.Shelf.Unicode.Decode
import Derived.Shelf.Strings.RuneCount
import Derived.Shelf.Strings.Explode
import Derived.Shelf.Unicode.DecodeSlow
import Derived.Test.YtfgjhgecmelccaaDoorProg
import Derived.Deep.AppendSrc
import Derived.Lib.AppendStr
import Derived.Laws.BytesArg
import Derived.Lib.AppendIntMem
import Derived.Lib.ItoaLen
import Derived.Lib.TrailingZeros
import Derived.Lib.SplitLaws
import Derived.Lib.ItoaNum
import Derived.Shelf.Strings.PiecesUse
import Derived.Shelf.Spec.TrailingZeros
import Derived.RangeFuncNested
import Derived.RangeFuncBound
import Derived.RangeFuncCalls
import Derived.RangeFuncLeaves
import Derived.Shelf.Abstract
import Derived.Shelf.RegionOpen
import Derived.OwnWalkIn
import Derived.TacticsInMore
import Derived.LoopNIn
import Derived.LoopIn
import Derived.Test.YtfgjhgecmelccaaDoorTie
import Derived.Lib.LaidTab
import Derived.LaidMore
import Derived.Lay
import Derived.Stop.LaidErr
import Derived.SevenTiedAt
import Derived.Test.YtfgjhgecmelccaaDoorCards
import Derived.Deep.CutBlock
import Derived.Deep.DeepCutAuto
import Derived.Laws.Tables
import Derived.Laws.Rows
import Derived.Laws.CopyOwn
import Derived.Outline
import Derived.IntWalk
import Derived.Lib.EndianBits
import Derived.StillTail
import Derived.Laws.IdiomStrings
import Derived.ChangeKeysEq
import Derived.Laws.StructEq
namespace Go.Proofs.YtfgjhgecmelccaaDoor
open Go.RowKit

theorem cutAt_len {c : UInt8} {t : List UInt8} {ps : List (List UInt8)} {f i : Nat} (h : CutAt c t ps f i) : ps.length ≤ t.length := by
  have h1 := cuts_len c t
  rw [h.2.2, List.length_append] at h1
  have h2 : 1 ≤ (consHead ((t.drop f).take (i - f)) (cuts c (t.drop i))).length := by
    cases hc : cuts c (t.drop i) with
    | nil => simp [consHead]
    | cons a r => simp [consHead]
  omega
set_option maxHeartbeats 1000000 in
set_option maxRecDepth 4000 in
theorem c_ref03_Split46 (t : List UInt8) (ht : t.length ≤ 1000000) (w : World) : Calls Tryd.prog 96 #[.string (str t), .int .u8 46] w (RetS 1 sc 9 w (cuts 46 t)) := by
  go_enter Tryd.func96, Tryd.ntmps96
  go_wp2_with (fail)
  go_loopw [5, 6, 7] (fun v fr i wr => ∃ (k f : Nat) (ps : List (List UInt8)), i = .int .i64 k ∧ fr = .int .i64 f ∧ f ≤ k ∧ k ≤ t.length ∧ ps.length ≤ t.length ∧ Hid (CutAt 46 t ps f k) ∧ Hid (wr.ownsRow w.heap.size 9 1 v ps.length (ps.flatMap sc)) ∧ Hid (Below w.heap.size w wr)) (fun _ _ i _ => t.length - (intOf i).toNat)
  case atStart => exact ⟨0, 0, [], rfl, rfl, by omega, by omega, by simp, CutAt.start 46 t, World.ownsRow_lit w #[] 0 (Nat.le_refl _) (by unfold maxLen; omega) (by simp), (by repeat (first | exact Below.refl _ _ | refine Below.drew ?_ | refine Below.alloc ?_ (by first | omega | (simp; done) | (simp; omega)) _ | refine Below.setCell ?_ (by first | omega | (simp; done) | (simp; omega)) _ | refine Below.trans ?_ (Below.mono (by assumption) (by first | omega | (simp; done) | (simp; omega)))))⟩
  case round =>
    obtain ⟨k, f, ps, rfl, rfl, hfk, hk, hpl, C, O, B1⟩ := hrel
    obtain ⟨A9, c9, rfl, -, -⟩ := own_form O.out
    have hz := B1.out.size
    by_cases hlt : k < t.length
    · have d1 : decide (k < t.length) = true := by simpa using hlt
      have h256 := t[k].toNat_lt
      by_cases h46 : t[k].toNat = 46
      · have j1 : ((t[k].toNat : Int) == 46) = true := by rw [beq_iff_eq]; omega
        have C2 := Lib.hid (C.out.sep hlt (UInt8.toNat_inj.1 h46))
        obtain ⟨p, hp⟩ : ∃ p, p = List.take (k - f) (List.drop f t) := ⟨_, rfl⟩
        replace C2 := Lib.hid (by have := C2.out; rw [← hp] at this; exact this)
        have hpl2 := cutAt_len C2.out
        have HP := Lib.hid hp.symm
        clear h46 C hp
        go_wp2_with ((at_builtin; refine Stop.out ?_))
        rw [HP.out]
        refine Stop.mk (wpList_app _ rfl _ _ elemS rfl w.heap.size (.slice A9 ps.length c9) ps.length _ rfl (own_below O.out ((Below.refl _ _).alloc (Nat.le_refl _) _)) _ 1 1 (sc p) rfl (Src.new _ (sc p) _ 1 rfl) (by simp [sc, Value.oneCell']) (by omega) (by simp; omega) ?_)
        intro v4 w4 own4 _ hb4 _
        have B4 := Lib.hid (B1.out.trans ((((Below.refl _ _).alloc hz _)).trans hb4))
        have O4 := Lib.hid (show w4.ownsRow w.heap.size 9 1 v4 ((ps ++ [p]).length) ((ps ++ [p]).flatMap sc) by simpa using own4)
        clear own4 hb4 O B1
        go_wp2_with (fail)
        go_roundw
        case rel => exact ⟨k + 1, k + 1, ps ++ [p], by go_num, by go_num, by omega, by omega, hpl2, C2.out, O4.out, B4.out⟩
        case measure => simp [intOf]; omega
      · have j1 : ((t[k].toNat : Int) == 46) = false := by rw [beq_eq_false_iff_ne]; omega
        have C2 := Lib.hid (C.out.next hlt (fun e => h46 (by rw [e]; rfl)))
        clear h46 C
        go_wp2_with (fail)
        go_roundw
        case rel => exact ⟨k + 1, f, ps, by go_num, rfl, by omega, by omega, hpl, C2.out, O.out, B1.out⟩
        case measure => simp [intOf]; omega
    · obtain rfl : k = t.length := by omega
      have d1 : decide (t.length < t.length) = false := by simp
      have C2 := Lib.hid C.out.done
      obtain ⟨p, hp⟩ : ∃ p, p = List.drop f t := ⟨_, rfl⟩
      replace C2 := Lib.hid (by have := C2.out; rw [← hp] at this; exact this)
      have HP := Lib.hid hp.symm
      have htk : List.take (t.length - f) p = p := by rw [hp]; exact List.take_of_length_le (by rw [List.length_drop]; exact Nat.le_refl _)
      have HT := Lib.hid htk
      clear hlt C hp htk
      go_wp2_with ((at_builtin; refine Stop.out ?_))
      rw [HP.out, HT.out]
      refine Stop.mk (wpList_app _ rfl _ _ elemS rfl w.heap.size (.slice A9 ps.length c9) ps.length _ rfl (own_below O.out ((Below.refl _ _).alloc (Nat.le_refl _) _)) _ 1 1 (sc p) rfl (Src.new _ (sc p) _ 1 rfl) (by simp [sc, Value.oneCell']) (by omega) (by simp; omega) ?_)
      intro v4 w4 own4 _ hb4 _
      have B4 := Lib.hid (B1.out.trans ((((Below.refl _ _).alloc hz _)).trans hb4))
      have O4 := Lib.hid (show w4.ownsRow w.heap.size 9 1 v4 ((ps ++ [p]).length) ((ps ++ [p]).flatMap sc) by simpa using own4)
      clear own4 hb4 O B1
      go_wp2_with (fail)
      go_ret
      exact RetS.of O4.out (Nat.le_refl _) C2.out.symm B4.out


theorem tokT_def {t : Tok} (h : t.ok = true) : tokT t = Lib.itoa t.dev ++ [46] ++ Lib.itoa t.epoch ++ [46] ++ Lib.itoa t.seq ++ [46] ++ (if t.cursor = 1073741824 then [97, 108, 108] else Lib.itoa t.cursor) := by
  unfold tokT
  rw [if_pos h]
  split
  · simp [tkW, Lib.join, List.intercalate]
  · simp [tkL, Lib.join, List.intercalate]
set_option maxHeartbeats 2000000 in
set_option maxRecDepth 4000 in
theorem c_ref26_Show (t : Tok) (w : World) : Calls Tryd.prog 42 #[.agg t.arr] w (RetV w (.string (str (tokT t)))) := by
  have B0 := Lib.hid (At.new w 72 t.arr)
  obtain ⟨q0, q1, q2, q3⟩ := tok_cells B0.out.2
  have CC := Lib.hid (c_ref26_Check t)
  cases hok : t.ok
  all_goals
    replace CC := Lib.hid (by have := CC.out; rw [hok] at this; exact this)
  · rw [tokT_bad hok]
    clear hok
    go_enter Tryd.func42, Tryd.ntmps42
    go_wp2_with (fail)
    refine (CC.out _).mono ?_
    rintro e w1 ⟨rfl, hb1⟩
    replace B0 := Lib.hid (B0.out.step hb1)
    clear q0 q1 q2 q3 hb1
    obtain ⟨q0, q1, q2, q3⟩ := tok_cells B0.out.2
    go_wp2_with (fail)
    go_ret
    exact RetV.of rfl B0.out.1
  · have HT := Lib.hid (tokT_def hok)
    obtain ⟨b0, b1, b2, b3, b4, b5, b6, b7⟩ := Tok.ok_iff.1 hok
    have T3 := Lib.hid (fun w' => c_ref03_TensB t.cursor w' (by omega) (by omega))
    have i0 := itoa_len t.dev (by omega) (by omega)
    have i1 := itoa_len t.epoch (by omega) (by omega)
    have i2 := itoa_len t.seq (by omega) (by omega)
    have i3 := itoa_len t.cursor (by omega) (by omega)
    clear hok
    by_cases hc : t.cursor = 1073741824
    · replace HT := Lib.hid (by have := HT.out; rw [if_pos hc] at this; exact this)
      have d : (t.cursor == 1073741824) = true := by simpa using hc
      clear hc
      go_enter Tryd.func42, Tryd.ntmps42
      go_wp2_with (fail)
      refine (CC.out _).mono ?_
      rintro e w1 ⟨rfl, hb1⟩
      replace B0 := Lib.hid (B0.out.step hb1)
      clear q0 q1 q2 q3 hb1
      obtain ⟨q0, q1, q2, q3⟩ := tok_cells B0.out.2
      go_wp2_with (fail)
      refine (T3.out _).mono ?_
      rintro e w2 ⟨rfl, hb2⟩
      replace B0 := Lib.hid (B0.out.step hb2)
      clear q0 q1 q2 q3 hb2
      obtain ⟨q0, q1, q2, q3⟩ := tok_cells B0.out.2
      have hlt := B0.out.2.lt
      have l0 : ¬ 9223372036854775807 < (Lib.itoa t.dev).length + 1 := by omega
      have l1 : ¬ 9223372036854775807 < (Lib.itoa t.dev).length + 1 + (Lib.itoa t.epoch).length := by omega
      have l2 : ¬ 9223372036854775807 < (Lib.itoa t.dev).length + ((Lib.itoa t.epoch).length + 1) + 1 := by omega
      have l3 : ¬ 9223372036854775807 < (Lib.itoa t.dev).length + ((Lib.itoa t.epoch).length + 1 + 1) + (Lib.itoa t.seq).length := by omega
      have l4 : ¬ 9223372036854775807 < (Lib.itoa t.dev).length + ((Lib.itoa t.epoch).length + ((Lib.itoa t.seq).length + 1) + 1) + 1 := by omega
      have l5 : ¬ 9223372036854775807 < (Lib.itoa t.dev).length + ((Lib.itoa t.epoch).length + ((Lib.itoa t.seq).length + 1 + 1) + 1) + 3 := by omega
      go_wp2_with (fail)
      refine wp_region_grow (by kernel_rfl) (by kernel_rfl) ?_
      repeat (quiet_step ((first | (go_at_call 101; exact quiet_grow (c_ref03_TensB _ _ (by omega) (by omega))))))
      refine wpQuiet_nil ?_
      intro w3 hb3
      go_wp2_with (fail)
      go_ret
      exact RetV.str (by rw [HT.out]; simp) (B0.out.1.trans (hb3.mono B0.out.1.size))
    · replace HT := Lib.hid (by have := HT.out; rw [if_neg hc] at this; exact this)
      have d : (t.cursor == 1073741824) = false := by simpa using hc
      clear hc
      go_enter Tryd.func42, Tryd.ntmps42
      go_wp2_with (fail)
      refine (CC.out _).mono ?_
      rintro e w1 ⟨rfl, hb1⟩
      replace B0 := Lib.hid (B0.out.step hb1)
      clear q0 q1 q2 q3 hb1
      obtain ⟨q0, q1, q2, q3⟩ := tok_cells B0.out.2
      go_wp2_with (fail)
      refine (T3.out _).mono ?_
      rintro e w2 ⟨rfl, hb2⟩
      replace B0 := Lib.hid (B0.out.step hb2)
      clear q0 q1 q2 q3 hb2
      obtain ⟨q0, q1, q2, q3⟩ := tok_cells B0.out.2
      have hlt := B0.out.2.lt
      have l0 : ¬ 9223372036854775807 < (Lib.itoa t.dev).length + 1 := by omega
      have l1 : ¬ 9223372036854775807 < (Lib.itoa t.dev).length + 1 + (Lib.itoa t.epoch).length := by omega
      have l2 : ¬ 9223372036854775807 < (Lib.itoa t.dev).length + ((Lib.itoa t.epoch).length + 1) + 1 := by omega
      have l3 : ¬ 9223372036854775807 < (Lib.itoa t.dev).length + ((Lib.itoa t.epoch).length + 1 + 1) + (Lib.itoa t.seq).length := by omega
      have l4 : ¬ 9223372036854775807 < (Lib.itoa t.dev).length + ((Lib.itoa t.epoch).length + ((Lib.itoa t.seq).length + 1) + 1) + 1 := by omega
      have l5 : ¬ 9223372036854775807 < (Lib.itoa t.dev).length + ((Lib.itoa t.epoch).length + ((Lib.itoa t.seq).length + 1 + 1) + 1) + (Lib.itoa t.cursor).length := by omega
      go_wp2_with (fail)
      refine wp_region_grow (by kernel_rfl) (by kernel_rfl) ?_
      repeat (quiet_step ((first | (go_at_call 101; exact quiet_grow (c_ref03_TensB _ _ (by omega) (by omega))))))
      refine wpQuiet_nil ?_
      intro w3 hb3
      go_wp2_with (fail)
      go_ret
      exact RetV.str (by rw [HT.out]; simp) (B0.out.1.trans (hb3.mono B0.out.1.size))

theorem isEmpty_ne {s : List UInt8} (h : s ≠ []) : s.isEmpty = false := by cases s <;> simp_all
set_option maxHeartbeats 4000000 in
set_option maxRecDepth 4000 in
theorem ref26_Parse_four (s a b c d : List UInt8) (hs : s.length ≤ 1000000) (hl : cuts 46 s = [a, b, c, d]) (w : World) : Calls Tryd.prog 32 #[.string (str s)] w (RetV w (.tuple #[.agg (tkV s).arr, .bool (tkO s)])) := by
  have CS := Lib.hid (fun w' => show Calls Tryd.prog 96 #[.string (str s), .int .u8 46] w' (RetS 1 sc 9 w' [a, b, c, d]) from hl ▸ c_ref03_Split46 s hs w')
  have hne : s ≠ [] := by intro e; rw [e] at hl; simp [cuts] at hl
  have HP9 := Lib.hid (show ∀ p ∈ [a, b, c, d], p.length ≤ 1000000 from fun p hp => Nat.le_trans (cuts_part 46 s p (by rw [hl]; exact hp)) hs)
  have HD := Lib.hid (rf4_eq hl)
  have I0 := Lib.hid (fun w' => c_ref03_Int a 6 w' (by have := HP9.out a (by simp); omega))
  have I1 := Lib.hid (fun w' => c_ref03_Int b 1099511627776 w' (by have := HP9.out b (by simp); omega))
  have I2 := Lib.hid (fun w' => c_ref03_Int c 1099511627776 w' (by have := HP9.out c (by simp); omega))
  have I3 := Lib.hid (fun w' => c_ref03_Int d 1073741823 w' (by have := HP9.out d (by simp); omega))
  obtain ⟨x0, e0⟩ : ∃ x, intV a 6 = x := ⟨_, rfl⟩
  obtain ⟨x1, e1⟩ : ∃ x, intV b 1099511627776 = x := ⟨_, rfl⟩
  obtain ⟨x2, e2⟩ : ∃ x, intV c 1099511627776 = x := ⟨_, rfl⟩
  obtain ⟨x3, e3⟩ : ∃ x, intV d 1073741823 = x := ⟨_, rfl⟩
  rw [e0] at I0
  rw [e1] at I1
  rw [e2] at I2
  rw [e3] at I3
  have HR : rf4 a b c d = ⟨x0, x1, x2, if d = [97, 108, 108] then 1073741824 else x3⟩ := by unfold rf4; rw [e0, e1, e2, e3]
  rw [HR] at HD
  have hs0 : (s == []) = false := by simpa using hne
  have hs1 := isEmpty_ne hne
  have BL := Lib.hid (At.new w 72 tz.arr)
  clear hl HR e0 e1 e2 e3
  by_cases hd : d = [97, 108, 108]
  all_goals
    first
      | (have kd : (d == [97, 108, 108]) = true := by { simpa using hd }; rw [if_pos hd] at HD; obtain ⟨x4, hx4⟩ : ∃ x : Int, (1073741824 : Int) = x := ⟨_, rfl⟩)
      | (have kd : (d == [97, 108, 108]) = false := by { simpa using hd }; rw [if_neg hd] at HD; obtain ⟨x4, hx4⟩ : ∃ x : Int, x3 = x := ⟨_, rfl⟩)
    clear hd
    have CT := Lib.hid (fun w' => c_ref26_Show ⟨x0, x1, x2, x4⟩ w')
    obtain ⟨q, hq⟩ : ∃ q, tokT ⟨x0, x1, x2, x4⟩ = q := ⟨_, rfl⟩
    rw [hx4] at HD
    rw [hq] at HD CT
    have HX := Lib.hid hx4
    clear hx4 hq
    have hqs : (((q != s) = true ∧ (q == s) = false) ∧ tkV s = tz ∧ tkO s = false) ∨ (((q != s) = false ∧ (q == s) = true) ∧ tkV s = ⟨x0, x1, x2, x4⟩ ∧ tkO s = true) := by
      by_cases h : q = s
      · right
        have := HD.out
        rw [if_neg (by intro hh; rcases hh with hh | hh <;> contradiction)] at this
        exact ⟨⟨by simpa using h, by simpa using h⟩, (tkV_some this.symm).1, (tkV_some this.symm).2⟩
      · left
        have := HD.out
        rw [if_pos (.inr h)] at this
        exact ⟨⟨by simpa using h, by simpa using h⟩, (tkV_none this.symm).1, (tkV_none this.symm).2⟩
    have V := Lib.hid hqs
    clear hqs HD hne
    go_enter Tryd.func32, Tryd.ntmps32
    go_wp2_with (fail)
    refine (CS.out _).mono ?_
    rintro e w1 ⟨v1, rfl, own1, hb1⟩
    obtain ⟨A9, c9, rfl, hin⟩ := In.of_own sc_len own1 (by simp)
    have BW := Lib.hid (BL.out.step hb1).1
    replace BL := Lib.hid (BL.out.step hb1).2
    have hC9 := hin.2.1
    have hL9 := hin.1
    simp only [List.length_cons, List.length_nil, Nat.reduceAdd] at hL9
    obtain ⟨b9, off9, hA9, hbb9, hrow9⟩ := hin.at (i := 0) (by simp)
    subst hA9
    have w0 := (show w1.cell? ⟨b9, off9, none⟩ = some (.string (str a)) by have := hrow9 0 (by simp) 0 _ rfl; simpa using this)
    have w1' := (show w1.cell? ⟨b9, off9 + 1, none⟩ = some (.string (str b)) by have := hrow9 1 (by simp) 0 _ rfl; simpa using this)
    have w2' := (show w1.cell? ⟨b9, off9 + 2, none⟩ = some (.string (str c)) by have := hrow9 2 (by simp) 0 _ rfl; simpa using this)
    have w3' := (show w1.cell? ⟨b9, off9 + 3, none⟩ = some (.string (str d)) by have := hrow9 3 (by simp) 0 _ rfl; simpa using this)
    have BX := Lib.hid (Below.refl w1.heap.size w1)
    clear hb1 hin own1 hrow9
    go_wp2_with (fail)
    refine (I0.out _).mono ?_
    rintro e w2 ⟨rfl, hb2⟩
    have ek := fun o : Nat => hb2.cell (p := ⟨b9, o, none⟩) (Nat.lt_of_lt_of_le hbb9 BX.out.size)
    replace BX := Lib.hid (BX.out.trans (hb2.mono BX.out.size))
    rw [← ek] at w0 w1' w2' w3'
    clear hb2 ek
    go_wp2_with (fail)
    refine (I1.out _).mono ?_
    rintro e w2 ⟨rfl, hb2⟩
    have ek := fun o : Nat => hb2.cell (p := ⟨b9, o, none⟩) (Nat.lt_of_lt_of_le hbb9 BX.out.size)
    replace BX := Lib.hid (BX.out.trans (hb2.mono BX.out.size))
    rw [← ek] at w0 w1' w2' w3'
    clear hb2 ek
    go_wp2_with (fail)
    refine (I2.out _).mono ?_
    rintro e w2 ⟨rfl, hb2⟩
    have ek := fun o : Nat => hb2.cell (p := ⟨b9, o, none⟩) (Nat.lt_of_lt_of_le hbb9 BX.out.size)
    replace BX := Lib.hid (BX.out.trans (hb2.mono BX.out.size))
    rw [← ek] at w0 w1' w2' w3'
    clear hb2 ek
    go_wp2_with (fail)
    refine (I3.out _).mono ?_
    rintro e w2 ⟨rfl, hb2⟩
    have ek := fun o : Nat => hb2.cell (p := ⟨b9, o, none⟩) (Nat.lt_of_lt_of_le hbb9 BX.out.size)
    replace BX := Lib.hid (BX.out.trans (hb2.mono BX.out.size))
    rw [← ek] at w0 w1' w2' w3'
    clear hb2 ek
    go_wp2_with (with_reducible refine stop_store 72 (.tmp 13) (.tmp 56) rfl rfl ?_)
    have E := Lib.hid ((EnvP.start (RdP.nilmk w2)).alloc 72 tz.arr)
    refine Stop.mk (wpList_storeB rfl _ _ _ rfl w2.heap.size _ rfl rfl _ E.out.b0 strTk rfl rfl (by simp [Value.oneCell']) ?_)
    intro w4 hb4 hk4
    replace E := Lib.hid ((E.out.put0 hb4 hk4).as (show _ = Tok.arr ⟨x0, x1, x2, x4⟩ by rw [← HX.out]))
    have Bw1 := Lib.hid (Below.trans BW.out (BX.out.mono BW.out.size))
    replace BL := Lib.hid (BL.out.below BX.out BL.out.lt)
    obtain ⟨g, hg⟩ : ∃ g, g = w2.heap.size := ⟨_, rfl⟩
    rw [← hg] at E ⊢
    clear hb4 hk4 hg HX w0 w1' w2' w3' BX BW
    rcases V.out with ⟨⟨kq, kq2⟩, V1⟩ | ⟨⟨kq, kq2⟩, V1⟩
    all_goals
      clear V
      replace V := Lib.hid V1
      clear V1
      obtain ⟨q0, q1, q2, q3⟩ := tok_cells E.out.b0
      have hlt := E.out.b0.lt
      go_wp2_with (fail)
      refine (CT.out _).mono ?_
      rintro e w5 ⟨rfl, hb5⟩
      replace E := Lib.hid (E.out.below hb5)
      clear q0 q1 q2 q3 hlt hb5
      obtain ⟨q0, q1, q2, q3⟩ := tok_cells E.out.b0
      have hlt := E.out.b0.lt
      have BF := Lib.hid (BL.out.below E.out.bel BL.out.lt)
      go_wp2_with (first | (with_reducible refine stop_store 72 (.tmp 2) (.tmp 65) rfl rfl ?_) | (with_reducible refine stop_store 72 (.tmp 2) (.tmp 66) rfl rfl ?_))
      refine Stop.mk (wpList_storeB rfl _ _ _ rfl w.heap.size _ rfl rfl _ BF.out strTk rfl rfl (by simp [Value.oneCell']) ?_)
      intro w11 hb11 hk11
      have hkk := (Bw1.out.trans (E.out.bel.mono Bw1.out.size)).trans (hk11.oneB (Nat.le_trans Bw1.out.size E.out.bel.size) (Nat.le_refl _))
      clear hk11
      go_wp2_with (fail)
      refine bodyPost_ret (results_B2 rfl rfl rfl hb11 strTk rfl) rfl (RetV.of ?_ hkk)
      rw [V.out.1, V.out.2] <;> rfl
theorem len_ne4 {l : List (List UInt8)} (h : ∀ a b c d, l ≠ [a, b, c, d]) : l.length ≠ 4 := by
  intro e
  match l, e with
  | [a, b, c, d], _ => exact h a b c d rfl
theorem tkParse_no {s : List UInt8} (h : ∀ a b c d, cuts 46 s ≠ [a, b, c, d]) : tkParse s = none := by
  unfold tkParse
  split
  · rename_i a b c d hs; exact absurd hs (h a b c d)
  · rfl
set_option maxHeartbeats 1000000 in
set_option maxRecDepth 4000 in
theorem ref26_Parse_other (s : List UInt8) (hs : s.length ≤ 1000000) (hl : ∀ a b c d, cuts 46 s ≠ [a, b, c, d]) (w : World) : Calls Tryd.prog 32 #[.string (str s)] w (RetV w (.tuple #[.agg (tkV s).arr, .bool (tkO s)])) := by
  rw [(tkV_none (tkParse_no hl)).1, (tkV_none (tkParse_no hl)).2]
  have h4 := len_ne4 hl
  have CS := Lib.hid (c_ref03_Split46 s hs)
  have hcl := cuts_len 46 s
  obtain ⟨l, hl⟩ : ∃ l, cuts 46 s = l := ⟨_, rfl⟩
  rw [hl] at h4 hcl CS
  have k4 : ((l.length : Int) == 4) = false := by rw [beq_eq_false_iff_ne]; omega
  have BL := Lib.hid (At.new w 72 tz.arr)
  clear h4 hl
  go_enter Tryd.func32, Tryd.ntmps32
  go_wp2_with (fail)
  refine (CS.out _).mono ?_
  rintro e w1 ⟨v1, rfl, own1, hb1⟩
  obtain ⟨A9, c9, rfl, hin⟩ := In.of_own sc_len own1 (by omega)
  have hC9 := hin.2.1
  have hL9 := hin.1
  have BW := Lib.hid (BL.out.step hb1).1
  replace BL := Lib.hid (BL.out.step hb1).2
  clear own1 hb1 hin
  go_wp2_with (with_reducible refine stop_store 72 (.tmp 2) (.tmp 19) rfl rfl ?_)
  refine Stop.mk (wpList_storeB rfl _ _ _ rfl w.heap.size _ rfl rfl _ BL.out strTk rfl rfl (by simp [Value.oneCell']) ?_)
  intro w11 hb11 hk11
  have hkk := BW.out.trans (hk11.oneB BW.out.size (Nat.le_refl _))
  clear hk11
  go_wp2_with (fail)
  exact bodyPost_ret (results_B2 rfl rfl rfl hb11 strTk rfl) rfl (RetV.of rfl hkk)
theorem c_ref26_Parse (s : List UInt8) (hs : s.length ≤ 1000000) (w : World) : Calls Tryd.prog 32 #[.string (str s)] w (RetV w (.tuple #[.agg (tkV s).arr, .bool (tkO s)])) := by
  rcases Classical.em (∃ a b c d, cuts 46 s = [a, b, c, d]) with ⟨a, b, c, d, hl⟩ | hl
  · exact ref26_Parse_four s a b c d hs hl w
  · exact ref26_Parse_other s hs (fun a b c d e => hl ⟨a, b, c, d, e⟩) w
end Go.Proofs.YtfgjhgecmelccaaDoor
