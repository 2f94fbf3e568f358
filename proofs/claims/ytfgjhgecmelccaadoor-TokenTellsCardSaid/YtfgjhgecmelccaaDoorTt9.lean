/-
  Lemmas (walks and plain laws), in one text.
-/
import Derived.Test.YtfgjhgecmelccaaDoorTt8
import Derived.Test.YtfgjhgecmelccaaDoorRows
import Derived.WalkKit
import Derived.WalkSpells
import Derived.WalkLawsBesides
import Derived.Lib.Hide
import Derived.Deep.QuietTactic
import Derived.BigQuiet
import Derived.Maps.AppendAt
import Derived.WalkSmall
import Derived.ProofKit
import Derived.OpenShut
import Derived.JoinedCond
import Derived.Deep.Slices
import Derived.Deep.Fields
import Derived.Carry
import Derived.HandedShaped
import Derived.Shelf.Strings.Builder1
import Derived.Shelf.Strings.Builder2
import Derived.Shelf.Strings.OnBuilder
import Derived.Shelf.Small.Wraps
import Derived.Shelf.Utf8.RuneCount
import Derived.Shelf.Strconv.Itoa0
import Derived.Shelf.Strconv.Itoa1
import Derived.Shelf.LaysM
import Derived.Shelf.Strconv.Itoa2
import Derived.Shelf.Strconv.Itoa3
import Derived.Shelf.Strings.Search1
import Derived.Shelf.Strings.Search2
import Derived.Shelf.Strings.Search3
import Derived.Shelf.Strings.Count
import Derived.Shelf.Strings.Shaped
import Derived.Shelf.Strings.Split
import Derived.Shelf.Strings.SplitShaped
import Derived.Shelf.Unicode.Decode
import Derived.Shelf.Strings.RuneCount
import Derived.Shelf.Strings.Explode
import Derived.Shelf.Unicode.DecodeSlow
import Derived.Test.YtfgjhgecmelccaaDoorProg
import Derived.Deep.AppendSrc
import Derived.Lib.AppendStr
import Derived.Laws.BytesArg
import Derived.Lib.AppendIntMem
import Derived.Lib.ItoaLen
import Derived.Lib.TrailingZeros
import Derived.Lib.SplitLaws
import Derived.Lib.ItoaNum
import Derived.Shelf.Strings.PiecesUse
import Derived.Shelf.Spec.TrailingZeros
import Derived.RangeFuncNested
import Derived.RangeFuncBound
import Derived.RangeFuncCalls
import Derived.RangeFuncLeaves
import Derived.Shelf.Abstract
import Derived.Shelf.RegionOpen
import Derived.OwnWalkIn
import Derived.TacticsInMore
import Derived.LoopNIn
import Derived.LoopIn
import Derived.Test.YtfgjhgecmelccaaDoorTie
import Derived.Lib.LaidTab
import Derived.LaidMore
import Derived.Lay
import Derived.Stop.LaidErr
import Derived.SevenTiedAt
import Derived.Test.YtfgjhgecmelccaaDoorCards
import Derived.Deep.CutBlock
import Derived.Deep.DeepCutAuto
import Derived.Laws.Tables
import Derived.Laws.Rows
import Derived.Laws.CopyOwn
import Derived.Outline
import Derived.IntWalk
import Derived.Lib.EndianBits
import Derived.StillTail
import Derived.Laws.IdiomStrings
import Derived.ChangeKeysEq
import Derived.Laws.StructEq
namespace Go.Proofs.YtfgjhgecmelccaaDoor
open Go.RowKit

theorem tok_ok_eq (t : Tok) : t.ok = (decide (0 ≤ t.dev) && (decide (t.dev < 6) && (decide (1 ≤ t.epoch) && (decide (t.epoch ≤ 1099511627776) && (decide (0 ≤ t.seq) && (decide (t.seq ≤ 1099511627776) && (decide (0 ≤ t.cursor) && decide (t.cursor ≤ 1073741824)))))))) := by
  rw [Bool.eq_iff_iff, Tok.ok_iff]
  simp only [Bool.and_eq_true, decide_eq_true_eq]
  omega
theorem goes_bad1 {a b : Tok} (h : a.ok = false) : a.goes b = false := by unfold Tok.goes; rw [h]; rfl
theorem goes_bad2 {a b : Tok} (h : b.ok = false) : a.goes b = false := by unfold Tok.goes; rw [h]; simp
theorem goes_eq {a b : Tok} (h : a.ok = true) (h2 : b.ok = true) : a.goes b = ((a.dev == b.dev) && ((a.epoch == b.epoch) && (decide (a.seq ≤ b.seq) && decide (a.cursor ≤ b.cursor)))) := by
  unfold Tok.goes
  rw [h, h2]
  rfl
set_option maxHeartbeats 2000000 in
theorem c_token_Goes (a b : Tok) (w : World) : Calls Tryd.prog 37 #[.agg a.arr, .agg b.arr] w (RetV w (.bool (a.goes b))) := by
  have B0 := Lib.hid (At2.new w 72 72 a.arr b.arr)
  obtain ⟨p0, p1, p2, p3⟩ := tok_cells B0.out.2.1; obtain ⟨q0, q1, q2, q3⟩ := tok_cells B0.out.2.2
  have CA := Lib.hid (c_token_Check a)
  have CB := Lib.hid (c_token_Check b)
  cases ha : a.ok
  · have HG := Lib.hid (goes_bad1 (b := b) ha)
    replace CA := Lib.hid (by have := CA.out; rw [ha] at this; exact this)
    clear ha
    go_enter Tryd.func37, Tryd.ntmps37
    go_wp2_with (fail)
    refine (CA.out _).mono ?_
    rintro e w1 ⟨rfl, hb1⟩
    replace B0 := Lib.hid (B0.out.step hb1)
    clear p0 p1 p2 p3 q0 q1 q2 q3 hb1
    obtain ⟨p0, p1, p2, p3⟩ := tok_cells B0.out.2.1; obtain ⟨q0, q1, q2, q3⟩ := tok_cells B0.out.2.2
    go_wp2_with (fail)
    go_ret
    exact RetV.bool HG.out.symm B0.out.1
  · replace CA := Lib.hid (by have := CA.out; rw [ha] at this; exact this)
    cases hb : b.ok
    · have HG := Lib.hid (goes_bad2 (a := a) hb)
      replace CB := Lib.hid (by have := CB.out; rw [hb] at this; exact this)
      clear ha hb
      go_enter Tryd.func37, Tryd.ntmps37
      go_wp2_with (fail)
      refine (CA.out _).mono ?_
      rintro e w1 ⟨rfl, hb1⟩
      replace B0 := Lib.hid (B0.out.step hb1)
      clear p0 p1 p2 p3 q0 q1 q2 q3 hb1
      obtain ⟨p0, p1, p2, p3⟩ := tok_cells B0.out.2.1; obtain ⟨q0, q1, q2, q3⟩ := tok_cells B0.out.2.2
      go_wp2_with (fail)
      refine (CB.out _).mono ?_
      rintro e w1 ⟨rfl, hb1⟩
      replace B0 := Lib.hid (B0.out.step hb1)
      clear p0 p1 p2 p3 q0 q1 q2 q3 hb1
      obtain ⟨p0, p1, p2, p3⟩ := tok_cells B0.out.2.1; obtain ⟨q0, q1, q2, q3⟩ := tok_cells B0.out.2.2
      go_wp2_with (fail)
      go_ret
      exact RetV.bool HG.out.symm B0.out.1
    · have HG := Lib.hid (goes_eq ha hb)
      replace CB := Lib.hid (by have := CB.out; rw [hb] at this; exact this)
      clear ha hb
      go_enter Tryd.func37, Tryd.ntmps37
      go_wp2_with (fail)
      refine (CA.out _).mono ?_
      rintro e w1 ⟨rfl, hb1⟩
      replace B0 := Lib.hid (B0.out.step hb1)
      clear p0 p1 p2 p3 q0 q1 q2 q3 hb1
      obtain ⟨p0, p1, p2, p3⟩ := tok_cells B0.out.2.1; obtain ⟨q0, q1, q2, q3⟩ := tok_cells B0.out.2.2
      go_wp2_with (fail)
      refine (CB.out _).mono ?_
      rintro e w1 ⟨rfl, hb1⟩
      replace B0 := Lib.hid (B0.out.step hb1)
      clear p0 p1 p2 p3 q0 q1 q2 q3 hb1
      obtain ⟨p0, p1, p2, p3⟩ := tok_cells B0.out.2.1; obtain ⟨q0, q1, q2, q3⟩ := tok_cells B0.out.2.2
      go_wp2_with (fail)
      all_goals
        go_ret
        refine RetV.bool ?_ B0.out.1
        rw [HG.out]
        first | (simp [*]; done) | (simp [*]; omega) | (simp [*]; intros; omega)
set_option maxHeartbeats 2000000 in
theorem c_ref26_Check (t : Tok) (w : World) : Calls Tryd.prog 34 #[.agg t.arr] w (RetV w (.bool t.ok)) := by
  have B0 := Lib.hid (At.new w 72 t.arr)
  obtain ⟨q0, q1, q2, q3⟩ := tok_cells B0.out.2
  have E := Lib.hid (tok_ok_eq t)
  go_enter Tryd.func34, Tryd.ntmps34
  go_wp2_with (fail)
  all_goals
    go_ret
    refine RetV.bool ?_ B0.out.1
    rw [E.out]
    first | (simp [*]; done) | (simp [*]; omega) | (simp [*]; intros; omega)
set_option maxHeartbeats 2000000 in
theorem c_ref26_Goes (a b : Tok) (w : World) : Calls Tryd.prog 38 #[.agg a.arr, .agg b.arr] w (RetV w (.bool (a.goes b))) := by
  have B0 := Lib.hid (At2.new w 72 72 a.arr b.arr)
  obtain ⟨p0, p1, p2, p3⟩ := tok_cells B0.out.2.1; obtain ⟨q0, q1, q2, q3⟩ := tok_cells B0.out.2.2
  have CA := Lib.hid (c_ref26_Check a)
  have CB := Lib.hid (c_ref26_Check b)
  cases ha : a.ok
  · have HG := Lib.hid (goes_bad1 (b := b) ha)
    replace CA := Lib.hid (by have := CA.out; rw [ha] at this; exact this)
    clear ha
    go_enter Tryd.func38, Tryd.ntmps38
    go_wp2_with (fail)
    refine (CA.out _).mono ?_
    rintro e w1 ⟨rfl, hb1⟩
    replace B0 := Lib.hid (B0.out.step hb1)
    clear p0 p1 p2 p3 q0 q1 q2 q3 hb1
    obtain ⟨p0, p1, p2, p3⟩ := tok_cells B0.out.2.1; obtain ⟨q0, q1, q2, q3⟩ := tok_cells B0.out.2.2
    go_wp2_with (fail)
    go_ret
    exact RetV.bool HG.out.symm B0.out.1
  · replace CA := Lib.hid (by have := CA.out; rw [ha] at this; exact this)
    cases hb : b.ok
    · have HG := Lib.hid (goes_bad2 (a := a) hb)
      replace CB := Lib.hid (by have := CB.out; rw [hb] at this; exact this)
      clear ha hb
      go_enter Tryd.func38, Tryd.ntmps38
      go_wp2_with (fail)
      refine (CA.out _).mono ?_
      rintro e w1 ⟨rfl, hb1⟩
      replace B0 := Lib.hid (B0.out.step hb1)
      clear p0 p1 p2 p3 q0 q1 q2 q3 hb1
      obtain ⟨p0, p1, p2, p3⟩ := tok_cells B0.out.2.1; obtain ⟨q0, q1, q2, q3⟩ := tok_cells B0.out.2.2
      go_wp2_with (fail)
      refine (CB.out _).mono ?_
      rintro e w1 ⟨rfl, hb1⟩
      replace B0 := Lib.hid (B0.out.step hb1)
      clear p0 p1 p2 p3 q0 q1 q2 q3 hb1
      obtain ⟨p0, p1, p2, p3⟩ := tok_cells B0.out.2.1; obtain ⟨q0, q1, q2, q3⟩ := tok_cells B0.out.2.2
      go_wp2_with (fail)
      go_ret
      exact RetV.bool HG.out.symm B0.out.1
    · have HG := Lib.hid (goes_eq ha hb)
      replace CB := Lib.hid (by have := CB.out; rw [hb] at this; exact this)
      clear ha hb
      go_enter Tryd.func38, Tryd.ntmps38
      go_wp2_with (fail)
      refine (CA.out _).mono ?_
      rintro e w1 ⟨rfl, hb1⟩
      replace B0 := Lib.hid (B0.out.step hb1)
      clear p0 p1 p2 p3 q0 q1 q2 q3 hb1
      obtain ⟨p0, p1, p2, p3⟩ := tok_cells B0.out.2.1; obtain ⟨q0, q1, q2, q3⟩ := tok_cells B0.out.2.2
      go_wp2_with (fail)
      refine (CB.out _).mono ?_
      rintro e w1 ⟨rfl, hb1⟩
      replace B0 := Lib.hid (B0.out.step hb1)
      clear p0 p1 p2 p3 q0 q1 q2 q3 hb1
      obtain ⟨p0, p1, p2, p3⟩ := tok_cells B0.out.2.1; obtain ⟨q0, q1, q2, q3⟩ := tok_cells B0.out.2.2
      go_wp2_with (fail)
      all_goals
        go_ret
        refine RetV.bool ?_ B0.out.1
        rw [HG.out]
        first | (simp [*]; done) | (simp [*]; omega) | (simp [*]; intros; omega)
set_option maxHeartbeats 400000 in
theorem c_token_First (d e s : Int) (w : World) : Calls Tryd.prog 35 #[.int .i64 d, .int .i64 e, .int .i64 s] w (RetV w (.agg (Tok.arr ⟨d, e, s, 0⟩))) := by
  have B0 := Lib.hid (At.new w 72 tz.arr)
  go_enter Tryd.func35, Tryd.ntmps35
  go_wp2_with (with_reducible refine stop_store 72 (.tmp 6) (.tmp 10) rfl rfl ?_)
  refine Stop.mk (wpList_storeB rfl _ _ _ rfl w.heap.size _ rfl rfl _ B0.out.2 strTk rfl rfl (by simp [Value.oneCell']) ?_)
  intro w11 hb11 hk11
  have hkk := B0.out.1.trans (hk11.oneB B0.out.1.size (Nat.le_refl _))
  clear hk11
  go_wp2_with (fail)
  exact bodyPost_ret (results_B rfl rfl hb11 strTk rfl) rfl (RetV.of rfl hkk)
set_option maxHeartbeats 1000000 in
theorem c_ref26_Put (t : Tok) (w : World) : Calls Tryd.prog 40 #[.agg t.arr] w (RetV w (.string (str (tokB t)))) := by
  have B0 := Lib.hid (At.new w 72 t.arr)
  obtain ⟨q0, q1, q2, q3⟩ := tok_cells B0.out.2
  have CC := Lib.hid (c_ref26_Check t)
  cases hok : t.ok
  all_goals
    replace CC := Lib.hid (by have := CC.out; rw [hok] at this; exact this)
  · rw [tokB_bad hok]
    clear hok
    go_enter Tryd.func40, Tryd.ntmps40
    go_wp2_with (fail)
    refine (CC.out _).mono ?_
    rintro e w1 ⟨rfl, hb1⟩
    go_wp2_with (fail)
    go_ret
    exact RetV.of rfl (B0.out.1.trans (hb1.mono B0.out.1.size))
  · have HB := Lib.hid (tokB_ok hok)
    clear hok
    go_enter Tryd.func40, Tryd.ntmps40
    go_wp2_with (fail)
    refine (CC.out _).mono ?_
    rintro e w1 ⟨rfl, hb1⟩
    replace B0 := Lib.hid (B0.out.step hb1)
    clear q0 q1 q2 q3 hb1
    obtain ⟨q0, q1, q2, q3⟩ := tok_cells B0.out.2
    have hlt := B0.out.2.lt
    have hn0 := (num_len t.dev).2
    have hn1 := (num_len t.epoch).2
    have hn2 := (num_len t.seq).2
    have hn3 := (num_len t.cursor).2
    have b0 : ¬ 9223372036854775807 < (num t.dev).length + (num t.epoch).length := by omega
    have b1 : ¬ 9223372036854775807 < (num t.dev).length + (num t.epoch).length + (num t.seq).length := by omega
    have b2 : ¬ 9223372036854775807 < (num t.dev).length + ((num t.epoch).length + (num t.seq).length) := by omega
    have b3 : ¬ 9223372036854775807 < (num t.dev).length + (num t.epoch).length + (num t.seq).length + (num t.cursor).length := by omega
    have b4 : ¬ 9223372036854775807 < (num t.dev).length + ((num t.epoch).length + (num t.seq).length) + (num t.cursor).length := by omega
    have b5 : ¬ 9223372036854775807 < (num t.dev).length + ((num t.epoch).length + ((num t.seq).length + (num t.cursor).length)) := by omega
    go_wp2_with (fail)
    refine wp_region_grow (by kernel_rfl) (by kernel_rfl) ?_
    repeat (quiet_step ((first | (go_at_call 69; exact quiet_grow (c_ref01_Num _ _)))))
    refine wpQuiet_nil ?_
    intro w2 hb2
    go_wp2_with (fail)
    go_ret
    exact RetV.str (by rw [HB.out]; simp) (B0.out.1.trans (hb2.mono B0.out.1.size))
/-- The first k of a token's numbers. -/
def preB (t : Tok) (k : Nat) : List UInt8 := (([t.dev, t.epoch, t.seq, t.cursor] : List Int).take k).flatMap num
theorem preB_all (t : Tok) : preB t 4 = num t.dev ++ (num t.epoch ++ (num t.seq ++ num t.cursor)) := by simp [preB]
set_option maxHeartbeats 4000000 in
set_option maxRecDepth 4000 in
theorem c_token_Put (b : List UInt8) (B : Option Addr) (cb : Nat) (t : Tok) (w : World) (hb : InB w B cb b) (hbl : b.length ≤ 900000) :
    Calls Tryd.prog 39 #[.slice B b.length cb, .agg t.arr] w (RetS 1 bc 5 w (b ++ tokB t)) := by
  have hL' := hb.1
  have hC' := hb.2.1
  have HB := Lib.hid hb
  have CC := Lib.hid (c_token_Check t)
  have B0 := Lib.hid (At.new w 72 t.arr)
  obtain ⟨q0, q1, q2, q3⟩ := tok_cells B0.out.2
  clear hb
  cases hok : t.ok
  all_goals
    replace CC := Lib.hid (by have := CC.out; rw [hok] at this; exact this)
  · have H : Hid (b = b ++ tokB t) := by show _ = _; rw [tokB_bad hok, List.append_nil]
    clear hok
    go_enter Tryd.func39, Tryd.ntmps39
    go_wp2_with (fail)
    refine (CC.out _).mono ?_
    rintro e w1 ⟨rfl, hb1⟩
    replace B0 := Lib.hid (B0.out.step hb1)
    go_wp2_with (fail)
    refine (c_Clone_b b B cb _ (HB.out.below B0.out.1)).mono ?_
    rintro e w2 ⟨v2, rfl, own2, hb2⟩
    go_wp2_with (fail)
    go_ret
    exact RetS.of own2 B0.out.1.size H.out (B0.out.1.trans (hb2.mono B0.out.1.size))
  · have HF := Lib.hid (tokB_ok hok)
    clear hok
    have ix0 : ∀ w, (Instr.index 138 (.agg t.arr) (.int .i64 0)).run Tryd.prog w = .ok (.int .i64 t.dev) w := fun _ => by kernel_rfl
    have ix1 : ∀ w, (Instr.index 138 (.agg t.arr) (.int .i64 1)).run Tryd.prog w = .ok (.int .i64 t.epoch) w := fun _ => by kernel_rfl
    have ix2 : ∀ w, (Instr.index 138 (.agg t.arr) (.int .i64 2)).run Tryd.prog w = .ok (.int .i64 t.seq) w := fun _ => by kernel_rfl
    have ix3 : ∀ w, (Instr.index 138 (.agg t.arr) (.int .i64 3)).run Tryd.prog w = .ok (.int .i64 t.cursor) w := fun _ => by kernel_rfl
    go_enter Tryd.func39, Tryd.ntmps39
    go_wp2_with (fail)
    refine (CC.out _).mono ?_
    rintro e w1 ⟨rfl, hb1⟩
    replace B0 := Lib.hid (B0.out.step hb1)
    clear q0 q1 q2 q3 hb1
    obtain ⟨q0, q1, q2, q3⟩ := tok_cells B0.out.2
    go_wp2_with (fail)
    refine (c_token_parts t _).mono ?_
    rintro e w2 ⟨rfl, hb2⟩
    replace B0 := Lib.hid (B0.out.step hb2)
    clear hb2 q0 q1 q2 q3
    go_wp2_with (fail)
    have H0 := Lib.hid (HB.out.below B0.out.1)
    go_loopw [0, 6, 14] (fun v _ i wr => ∃ (k : Nat) (acc : List UInt8) (A1 : Option Addr) (c1 : Nat), k ≤ 4 ∧ i = .int .i64 k ∧ v = .slice A1 acc.length c1 ∧ acc.length ≤ b.length + 7 * k ∧ InB wr A1 c1 acc ∧ Hid (0 < k → wr.ownsRow w.heap.size 5 1 v acc.length (acc.flatMap bc)) ∧ Hid (acc = b ++ preB t k) ∧ Hid (At w wr t.arr))
      (fun _ _ i _ => 4 - (intOf i).toNat)
    case atStart => exact ⟨0, b, B, cb, by omega, rfl, rfl, by omega, H0.out, fun h => absurd h (by omega), by show _ = _; simp [preB], B0.out⟩
    case round =>
      obtain ⟨k, acc, A1, c1, hk, rfl, rfl, hac, in1, O, N, BR⟩ := hrel
      have hbz := BR.out.1.size
      clear B0 H0
      have hcs : k = 0 ∨ k = 1 ∨ k = 2 ∨ k = 3 ∨ k = 4 := by omega
      clear hk
      rcases hcs with rfl | rfl | rfl | rfl | rfl
      · have hn := (num_len t.dev).2
        go_wp2_with (go_at_call 67; refine (c_octet_Num acc A1 c1 _ _ in1).mono ?_; rintro e w3 ⟨v3, rfl, own3, hb3⟩)
        obtain ⟨A3, c3, rfl, in3⟩ := In.of_own bc_len own3 (by simp only [List.length_append]; omega)
        have O3 := Lib.hid (own_base own3 hbz)
        have B3 := Lib.hid (BR.out.step hb3)
        have L3 : (acc ++ num t.dev).length ≤ b.length + 7 * 1 := by rw [List.length_append]; omega
        have N3 : Hid (acc ++ num t.dev = b ++ preB t 1) := by show _ = _; rw [N.out]; simp [preB]
        clear own3 hb3 O N BR
        go_roundw
        case rel => exact ⟨1, acc ++ num t.dev, A3, c3, by omega, rfl, by first | rfl | (rw [List.length_append]), L3, in3, fun _ => by first | exact O3.out | simpa using O3.out, N3, B3⟩
        case measure => simp [intOf]
      · have hn := (num_len t.epoch).2
        go_wp2_with (go_at_call 67; refine (c_octet_Num acc A1 c1 _ _ in1).mono ?_; rintro e w3 ⟨v3, rfl, own3, hb3⟩)
        obtain ⟨A3, c3, rfl, in3⟩ := In.of_own bc_len own3 (by simp only [List.length_append]; omega)
        have O3 := Lib.hid (own_base own3 hbz)
        have B3 := Lib.hid (BR.out.step hb3)
        have L3 : (acc ++ num t.epoch).length ≤ b.length + 7 * 2 := by rw [List.length_append]; omega
        have N3 : Hid (acc ++ num t.epoch = b ++ preB t 2) := by show _ = _; rw [N.out]; simp [preB]
        clear own3 hb3 O N BR
        go_roundw
        case rel => exact ⟨2, acc ++ num t.epoch, A3, c3, by omega, rfl, by first | rfl | (rw [List.length_append]), L3, in3, fun _ => by first | exact O3.out | simpa using O3.out, N3, B3⟩
        case measure => simp [intOf]
      · have hn := (num_len t.seq).2
        go_wp2_with (go_at_call 67; refine (c_octet_Num acc A1 c1 _ _ in1).mono ?_; rintro e w3 ⟨v3, rfl, own3, hb3⟩)
        obtain ⟨A3, c3, rfl, in3⟩ := In.of_own bc_len own3 (by simp only [List.length_append]; omega)
        have O3 := Lib.hid (own_base own3 hbz)
        have B3 := Lib.hid (BR.out.step hb3)
        have L3 : (acc ++ num t.seq).length ≤ b.length + 7 * 3 := by rw [List.length_append]; omega
        have N3 : Hid (acc ++ num t.seq = b ++ preB t 3) := by show _ = _; rw [N.out]; simp [preB]
        clear own3 hb3 O N BR
        go_roundw
        case rel => exact ⟨3, acc ++ num t.seq, A3, c3, by omega, rfl, by first | rfl | (rw [List.length_append]), L3, in3, fun _ => by first | exact O3.out | simpa using O3.out, N3, B3⟩
        case measure => simp [intOf]
      · have hn := (num_len t.cursor).2
        go_wp2_with (go_at_call 67; refine (c_octet_Num acc A1 c1 _ _ in1).mono ?_; rintro e w3 ⟨v3, rfl, own3, hb3⟩)
        obtain ⟨A3, c3, rfl, in3⟩ := In.of_own bc_len own3 (by simp only [List.length_append]; omega)
        have O3 := Lib.hid (own_base own3 hbz)
        have B3 := Lib.hid (BR.out.step hb3)
        have L3 : (acc ++ num t.cursor).length ≤ b.length + 7 * 4 := by rw [List.length_append]; omega
        have N3 : Hid (acc ++ num t.cursor = b ++ preB t 4) := by show _ = _; rw [N.out]; simp [preB]
        clear own3 hb3 O N BR
        go_roundw
        case rel => exact ⟨4, acc ++ num t.cursor, A3, c3, by omega, rfl, by first | rfl | (rw [List.length_append]), L3, in3, fun _ => by first | exact O3.out | simpa using O3.out, N3, B3⟩
        case measure => simp [intOf]
      · have O4 := Lib.hid (O.out (by omega))
        have H : Hid (acc = b ++ tokB t) := by show _ = _; rw [N.out, preB_all, HF.out]; simp
        go_wp2_with (fail)
        go_ret
        exact RetS.of O4.out (Nat.le_refl _) H.out BR.out.1
end Go.Proofs.YtfgjhgecmelccaaDoor
namespace Go.Proofs.YtfgjhgecmelccaaDoor
open Go.RowKit

set_option maxHeartbeats 1000000 in
theorem ref03_Tens_low (n : Nat) (h : n < 10) (w : World) : Calls Tryd.prog 101 #[.int .i64 n] w (RetV w (.string (str (tens n)))) := by
  have kc := fun (w : World) (x : Int) => conv_one (P := Tryd.prog) w (src := 50) (dst := 9) (e := 5) Tryd.underlying50 Tryd.underlying5 Tryd.underlying9 x
  have H := Lib.hid (tens_lt h)
  have d1 : decide ((n : Int) < 0) = false := by simp
  have d2 : decide ((n : Int) < 10) = true := by simp; omega
  go_enter Tryd.func101, Tryd.ntmps101
  go_wp2_with (fail)
  go_ret
  refine RetV.str ?_ (by repeat (first | exact Below.refl _ _ | refine Below.drew ?_ | refine Below.alloc ?_ (by first | omega | (simp; done) | (simp; omega)) _ | refine Below.setCell ?_ (by first | omega | (simp; done) | (simp; omega)) _ | refine Below.trans ?_ (Below.mono (by assumption) (by first | omega | (simp; done) | (simp; omega)))))
  rw [H.out]
  congr 2
  omega
set_option maxHeartbeats 1000000 in
theorem ref03_Tens_high (n : Nat) (h : ¬ n < 10) (hn : n ≤ 9223372036854775807) (w : World) (ih : ∀ w', Calls Tryd.prog 101 #[.int .i64 ((n / 10 : Nat) : Int)] w' (RetV w' (.string (str (tens (n / 10)))))) :
    Calls Tryd.prog 101 #[.int .i64 n] w (RetV w (.string (str (tens n)))) := by
  have kc := fun (w : World) (x : Int) => conv_one (P := Tryd.prog) w (src := 50) (dst := 9) (e := 5) Tryd.underlying50 Tryd.underlying5 Tryd.underlying9 x
  have H := Lib.hid (tens_ge h)
  have IH := Lib.hid ih
  have hl := tens_len (n / 10) 19 (by omega) (by omega)
  have d1 : decide ((n : Int) < 0) = false := by simp
  have d2 : decide ((n : Int) < 10) = false := by simp; omega
  clear ih h
  go_enter Tryd.func101, Tryd.ntmps101
  go_wp2_with (fail)
  refine (IH.out _).mono ?_
  rintro e w2 ⟨rfl, hb2⟩
  have hB := Lib.hid (show Below w.heap.size w w2 from Below.trans (by repeat (first | exact Below.refl _ _ | refine Below.drew ?_ | refine Below.alloc ?_ (by first | omega | (simp; done) | (simp; omega)) _ | refine Below.setCell ?_ (by first | omega | (simp; done) | (simp; omega)) _ | refine Below.trans ?_ (Below.mono (by assumption) (by first | omega | (simp; done) | (simp; omega))))) (hb2.mono (by simp)))
  clear hb2
  go_wp2_with (fail)
  go_ret
  refine RetV.str ?_ hB.out
  rw [H.out, UInt8.ofNat_add]
  rfl
theorem c_ref03_Tens (n : Nat) (hn : n ≤ 9223372036854775807) (w : World) : Calls Tryd.prog 101 #[.int .i64 n] w (RetV w (.string (str (tens n)))) := by
  induction n using Nat.strongRecOn generalizing w with
  | _ n ih =>
    by_cases h : n < 10
    · exact ref03_Tens_low n h w
    · exact ref03_Tens_high n h hn w (fun w' => ih (n / 10) (by omega) (by omega) w')
end Go.Proofs.YtfgjhgecmelccaaDoor
namespace Go.Proofs.YtfgjhgecmelccaaDoor
open Go.RowKit

theorem itoa_minB : Lib.itoa (-9223372036854775808) = [45, 57, 50, 50, 51, 51, 55, 50, 48, 51, 54, 56, 53, 52, 55, 55, 53, 56, 48, 56] := by decide +kernel
set_option maxHeartbeats 1000000 in
theorem c_ref03_TensB (n : Int) (w : World) (h0 : -9223372036854775808 ≤ n) (h1 : n ≤ 9223372036854775807) : Calls Tryd.prog 101 #[.int .i64 n] w (RetV w (.string (str (Lib.itoa n)))) := by
  by_cases hn : n < 0
  · have d1 : decide (n < 0) = true := by simpa using hn
    by_cases hm : n = -9223372036854775808
    · subst hm
      rw [itoa_minB]
      clear d1 hn h0 h1
      go_enter Tryd.func101, Tryd.ntmps101
      go_wp2_with (fail)
      go_ret
      exact RetV.of rfl (by repeat (first | exact Below.refl _ _ | refine Below.drew ?_ | refine Below.alloc ?_ (by first | omega | (simp; done) | (simp; omega)) _ | refine Below.setCell ?_ (by first | omega | (simp; done) | (simp; omega)) _ | refine Below.trans ?_ (Below.mono (by assumption) (by first | omega | (simp; done) | (simp; omega)))))
    · have d2 : (n == -9223372036854775808) = false := by simpa using hm
      have CT := Lib.hid (fun w' => c_ref03_Tens n.natAbs (by omega) w')
      have E := Lib.hid (itoa_neg hn)
      have hl := tens_len n.natAbs 19 (by omega) (by omega)
      have ea : (0 : Int) - n = (n.natAbs : Int) := by omega
      have eb : -n = (n.natAbs : Int) := by omega
      obtain ⟨m, hmm⟩ : ∃ m, n.natAbs = m := ⟨_, rfl⟩
      rw [hmm] at CT ea eb hl
      replace E := Lib.hid (by have := E.out; rw [hmm] at this; exact this)
      have hmi : (m : Int) ≤ 9223372036854775807 := by omega
      rw [E.out]
      clear hm hmm
      go_enter Tryd.func101, Tryd.ntmps101
      go_wp2_with (fail)
      refine (CT.out _).mono ?_
      rintro e w1 ⟨rfl, hb1⟩
      go_wp2_with (fail)
      go_ret
      exact RetV.str rfl hb1
  · obtain ⟨k, rfl⟩ : ∃ k : Nat, n = k := ⟨n.toNat, by omega⟩
    rw [itoa_nat]
    exact c_ref03_Tens k (by omega) w
end Go.Proofs.YtfgjhgecmelccaaDoor
