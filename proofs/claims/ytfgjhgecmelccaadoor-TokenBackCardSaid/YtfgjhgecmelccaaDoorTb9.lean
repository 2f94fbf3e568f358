/-
  Lemmas (walks and plain laws), in one text.
-/
import Derived.Test.YtfgjhgecmelccaaDoorTb8
import Derived.Test.YtfgjhgecmelccaaDoorRows
import Derived.WalkKit
import Derived.WalkSpells
import Derived.WalkLawsBesides
import Derived.Lib.Hide
import Derived.Deep.QuietTactic
import Derived.BigQuiet
import Derived.Maps.AppendAt
import Derived.WalkSmall
import Derived.ProofKit
import Derived.OpenShut
import Derived.JoinedCond
import Derived.Deep.Slices
import Derived.Deep.Fields
import Derived.Carry
import Derived.HandedShaped
import Derived.Shelf.Strings.Builder1
import Derived.Shelf.Strings.Builder2
import Derived.Shelf.Strings.OnBuilder
import Derived.Shelf.Small.Wraps
import Derived.Shelf.Utf8.RuneCount
import Derived.Shelf.Strconv.Itoa0
import Derived.Shelf.Strconv.Itoa1
import Derived.Shelf.LaysM
import Derived.Shelf.Strconv.Itoa2
import Derived.Shelf.Strconv.Itoa3
import Derived.Shelf.Strings.Search1
import Derived.Shelf.Strings.Search2
import Derived.Shelf.Strings.Search3
import Derived.Shelf.Strings.Count
import Derived.Shelf.Strings.Shaped
import Derived.Shelf.Strings.Split
import Derived.Shelf.Strings.SplitShaped
import Derived.Shelf.Unicode.Decode
import Derived.Shelf.Strings.RuneCount
import Derived.Shelf.Strings.Explode
import Derived.Shelf.Unicode.DecodeSlow
import Derived.Test.YtfgjhgecmelccaaDoorProg
import Derived.Deep.AppendSrc
import Derived.Lib.AppendStr
import Derived.Laws.BytesArg
import Derived.Lib.AppendIntMem
import Derived.Lib.ItoaLen
import Derived.Lib.TrailingZeros
import Derived.Lib.SplitLaws
import Derived.Lib.ItoaNum
import Derived.Shelf.Strings.PiecesUse
import Derived.Shelf.Spec.TrailingZeros
import Derived.RangeFuncNested
import Derived.RangeFuncBound
import Derived.RangeFuncCalls
import Derived.RangeFuncLeaves
import Derived.Shelf.Abstract
import Derived.Shelf.RegionOpen
import Derived.OwnWalkIn
import Derived.TacticsInMore
import Derived.LoopNIn
import Derived.LoopIn
import Derived.Test.YtfgjhgecmelccaaDoorTie
import Derived.Lib.LaidTab
import Derived.LaidMore
import Derived.Lay
import Derived.Stop.LaidErr
import Derived.SevenTiedAt
import Derived.Test.YtfgjhgecmelccaaDoorCards
import Derived.Deep.CutBlock
import Derived.Deep.DeepCutAuto
import Derived.Laws.Tables
import Derived.Laws.Rows
import Derived.Laws.CopyOwn
import Derived.Outline
import Derived.IntWalk
import Derived.Lib.EndianBits
import Derived.StillTail
import Derived.Laws.IdiomStrings
import Derived.ChangeKeysEq
import Derived.Laws.StructEq
namespace Go.Proofs.YtfgjhgecmelccaaDoor
open Go.RowKit

/-- What the last word says. -/
def curR (d : List UInt8) : Option Nat := if d = [97, 108, 108] then some 1073741824 else match intR d 1073741824 with
  | none => none
  | some n => if n = 1073741824 then none else some n
def tk4 (a b c d : List UInt8) : Option Tok :=
  match intR a 5, intR b 1099511627776, intR c 1099511627776, curR d with
  | some x, some y, some z, some u => if 0 < y then some ⟨x, y, z, u⟩ else none
  | _, _, _, _ => none
/-- What a text is read as. -/
def tkParse (s : List UInt8) : Option Tok := match cuts 46 s with | [a, b, c, d] => tk4 a b c d | _ => none
/-- The words of a token that may be. -/
def tkwC (n : Int) : List UInt8 := if n = 1073741824 then [97, 108, 108] else tens n.toNat
def tkw (t : Tok) : List (List UInt8) := [tens t.dev.toNat, tens t.epoch.toNat, tens t.seq.toNat, tkwC t.cursor]
theorem itoa_pos {n : Int} (h : 0 ≤ n) : Lib.itoa n = tens n.toNat := by
  have := itoa_nat n.toNat
  rw [Int.toNat_of_nonneg h] at this
  exact this
theorem join4 (a b c d : List UInt8) : Lib.join [a, b, c, d] [46] = joinC 46 [a, b, c, d] := by simp [Lib.join, List.intercalate, joinC]
theorem tokT_ok {t : Tok} (h : t.ok = true) : tokT t = joinC 46 (tkw t) := by
  obtain ⟨a1, a2, a3, a4, a5, a6, a7, a8⟩ := Tok.ok_iff.1 h
  unfold tokT tkw tkwC
  rw [if_pos h]
  by_cases hc : t.cursor = 1073741824
  · rw [if_pos hc, if_pos hc]
    unfold tkW
    rw [join4, itoa_pos a1, itoa_pos (by omega), itoa_pos a5]
  · rw [if_neg hc, if_neg hc]
    unfold tkL
    rw [join4, itoa_pos a1, itoa_pos (by omega), itoa_pos a5, itoa_pos a7]
theorem tens_nodot (n : Nat) : ∀ x ∈ tens n, x ≠ 46 := by
  intro x hx e
  have := tens_digits n x hx
  subst e
  simp at this
theorem tkw_nodot (t : Tok) : ∀ p ∈ tkw t, ∀ x ∈ p, x ≠ 46 := by
  intro p hp x hx
  unfold tkw at hp
  simp only [List.mem_cons, List.not_mem_nil, or_false] at hp
  rcases hp with rfl | rfl | rfl | rfl
  · exact tens_nodot _ x hx
  · exact tens_nodot _ x hx
  · exact tens_nodot _ x hx
  · unfold tkwC at hx
    split at hx
    · simp only [List.mem_cons, List.not_mem_nil, or_false] at hx
      rcases hx with rfl | rfl | rfl <;> decide
    · exact tens_nodot _ x hx
theorem cuts_tok {t : Tok} (h : t.ok = true) : cuts 46 (tokT t) = tkw t := by
  rw [tokT_ok h]
  exact cuts_joinC (by simp [tkw]) (tkw_nodot t)
theorem tens_all (n : Nat) : tens n ≠ [97, 108, 108] := by
  intro e
  have := tens_digits n 97 (by rw [e]; simp)
  simp at this
theorem curR_tkwC {n : Int} (h0 : 0 ≤ n) (h1 : n ≤ 1073741824) : curR (tkwC n) = some n.toNat := by
  unfold tkwC curR
  by_cases hc : n = 1073741824
  · rw [if_pos hc, if_pos rfl, hc]; rfl
  · rw [if_neg hc, if_neg (tens_all _), intR_tens (by omega) (by omega)]
    simp only
    rw [if_neg (by omega)]
/-- A token is read of its text. -/
theorem tkParse_text {t : Tok} (h : t.ok = true) : tkParse (tokT t) = some t := by
  obtain ⟨a1, a2, a3, a4, a5, a6, a7, a8⟩ := Tok.ok_iff.1 h
  unfold tkParse
  rw [cuts_tok h]
  unfold tkw
  simp only
  unfold tk4
  rw [intR_tens (by omega) (by omega), intR_tens (by omega) (by omega), intR_tens (by omega) (by omega), curR_tkwC a7 a8]
  simp only
  rw [if_pos (by omega)]
  obtain ⟨d, e, s, c⟩ := t
  simp only at *
  rw [Int.toNat_of_nonneg a1, Int.toNat_of_nonneg (by omega), Int.toNat_of_nonneg a5, Int.toNat_of_nonneg a7]
theorem curR_some {d : List UInt8} {u : Nat} (h : curR d = some u) : d = tkwC u ∧ u ≤ 1073741824 := by
  unfold curR at h
  split at h
  · rename_i hd
    injection h with h
    subst h
    exact ⟨by rw [hd]; rfl, by omega⟩
  · cases hi : intR d 1073741824 with
    | none => rw [hi] at h; cases h
    | some n =>
      rw [hi] at h
      simp only at h
      split at h
      · cases h
      · rename_i hn
        injection h with h
        subst h
        obtain ⟨e1, _, e3⟩ := tens_intR hi
        refine ⟨?_, by omega⟩
        unfold tkwC
        rw [if_neg (by omega), Int.toNat_natCast]
        exact e1
theorem tkw_four (t : Tok) : tkw t = [tens t.dev.toNat, tens t.epoch.toNat, tens t.seq.toNat, tkwC t.cursor] := rfl
theorem tokT_len (t : Tok) : (tokT t).length ≤ 100 := by
  cases h : t.ok with
  | false => rw [tokT_bad h]; simp
  | true =>
    obtain ⟨a1, a2, a3, a4, a5, a6, a7, a8⟩ := Tok.ok_iff.1 h
    have l1 := tens_len t.dev.toNat 19 (by omega) (by omega)
    have l2 := tens_len t.epoch.toNat 19 (by omega) (by omega)
    have l3 := tens_len t.seq.toNat 19 (by omega) (by omega)
    have l4 : (tkwC t.cursor).length ≤ 19 := by
      unfold tkwC
      split
      · simp
      · exact tens_len t.cursor.toNat 19 (by omega) (by omega)
    rw [tokT_ok h, tkw_four]
    simp only [joinC, List.length_append, List.length_cons]
    omega
/-- What is told of a text. -/
def tkV (s : List UInt8) : Tok := (tkParse s).getD tz
def tkO (s : List UInt8) : Bool := (tkParse s).isSome
theorem tkV_some {s : List UInt8} {t : Tok} (h : tkParse s = some t) : tkV s = t ∧ tkO s = true := by unfold tkV tkO; rw [h]; exact ⟨rfl, rfl⟩
theorem tkV_none {s : List UInt8} (h : tkParse s = none) : tkV s = tz ∧ tkO s = false := by unfold tkV tkO; rw [h]; exact ⟨rfl, rfl⟩
/-- A token may come behind another one. -/
def Tok.goes (a b : Tok) : Bool := a.ok && (b.ok && (decide (a.dev = b.dev) && (decide (a.epoch = b.epoch) && (decide (a.seq ≤ b.seq) && decide (a.cursor ≤ b.cursor)))))
theorem Tok.goes_trans {a b c : Tok} (h1 : a.goes b = true) (h2 : b.goes c = true) : a.goes c = true := by
  unfold Tok.goes at *
  simp only [Bool.and_eq_true, decide_eq_true_eq] at *
  obtain ⟨x1, x2, x3, x4, x5, x6⟩ := h1
  obtain ⟨y1, y2, y3, y4, y5, y6⟩ := h2
  exact ⟨x1, y2, by omega, by omega, by omega, by omega⟩
theorem Tok.goes_self {a : Tok} (h : a.ok = true) : a.goes a = true := by unfold Tok.goes; rw [h]; simp
end Go.Proofs.YtfgjhgecmelccaaDoor
namespace Go.Proofs.YtfgjhgecmelccaaDoor
open Go.RowKit

theorem tok_ok_eq (t : Tok) : t.ok = (decide (0 ≤ t.dev) && (decide (t.dev < 6) && (decide (1 ≤ t.epoch) && (decide (t.epoch ≤ 1099511627776) && (decide (0 ≤ t.seq) && (decide (t.seq ≤ 1099511627776) && (decide (0 ≤ t.cursor) && decide (t.cursor ≤ 1073741824)))))))) := by
  rw [Bool.eq_iff_iff, Tok.ok_iff]
  simp only [Bool.and_eq_true, decide_eq_true_eq]
  omega
theorem goes_bad1 {a b : Tok} (h : a.ok = false) : a.goes b = false := by unfold Tok.goes; rw [h]; rfl
theorem goes_bad2 {a b : Tok} (h : b.ok = false) : a.goes b = false := by unfold Tok.goes; rw [h]; simp
theorem goes_eq {a b : Tok} (h : a.ok = true) (h2 : b.ok = true) : a.goes b = ((a.dev == b.dev) && ((a.epoch == b.epoch) && (decide (a.seq ≤ b.seq) && decide (a.cursor ≤ b.cursor)))) := by
  unfold Tok.goes
  rw [h, h2]
  rfl
set_option maxHeartbeats 2000000 in
theorem c_token_Goes (a b : Tok) (w : World) : Calls Tryd.prog 37 #[.agg a.arr, .agg b.arr] w (RetV w (.bool (a.goes b))) := by
  have B0 := Lib.hid (At2.new w 72 72 a.arr b.arr)
  obtain ⟨p0, p1, p2, p3⟩ := tok_cells B0.out.2.1; obtain ⟨q0, q1, q2, q3⟩ := tok_cells B0.out.2.2
  have CA := Lib.hid (c_token_Check a)
  have CB := Lib.hid (c_token_Check b)
  cases ha : a.ok
  · have HG := Lib.hid (goes_bad1 (b := b) ha)
    replace CA := Lib.hid (by have := CA.out; rw [ha] at this; exact this)
    clear ha
    go_enter Tryd.func37, Tryd.ntmps37
    go_wp2_with (fail)
    refine (CA.out _).mono ?_
    rintro e w1 ⟨rfl, hb1⟩
    replace B0 := Lib.hid (B0.out.step hb1)
    clear p0 p1 p2 p3 q0 q1 q2 q3 hb1
    obtain ⟨p0, p1, p2, p3⟩ := tok_cells B0.out.2.1; obtain ⟨q0, q1, q2, q3⟩ := tok_cells B0.out.2.2
    go_wp2_with (fail)
    go_ret
    exact RetV.bool HG.out.symm B0.out.1
  · replace CA := Lib.hid (by have := CA.out; rw [ha] at this; exact this)
    cases hb : b.ok
    · have HG := Lib.hid (goes_bad2 (a := a) hb)
      replace CB := Lib.hid (by have := CB.out; rw [hb] at this; exact this)
      clear ha hb
      go_enter Tryd.func37, Tryd.ntmps37
      go_wp2_with (fail)
      refine (CA.out _).mono ?_
      rintro e w1 ⟨rfl, hb1⟩
      replace B0 := Lib.hid (B0.out.step hb1)
      clear p0 p1 p2 p3 q0 q1 q2 q3 hb1
      obtain ⟨p0, p1, p2, p3⟩ := tok_cells B0.out.2.1; obtain ⟨q0, q1, q2, q3⟩ := tok_cells B0.out.2.2
      go_wp2_with (fail)
      refine (CB.out _).mono ?_
      rintro e w1 ⟨rfl, hb1⟩
      replace B0 := Lib.hid (B0.out.step hb1)
      clear p0 p1 p2 p3 q0 q1 q2 q3 hb1
      obtain ⟨p0, p1, p2, p3⟩ := tok_cells B0.out.2.1; obtain ⟨q0, q1, q2, q3⟩ := tok_cells B0.out.2.2
      go_wp2_with (fail)
      go_ret
      exact RetV.bool HG.out.symm B0.out.1
    · have HG := Lib.hid (goes_eq ha hb)
      replace CB := Lib.hid (by have := CB.out; rw [hb] at this; exact this)
      clear ha hb
      go_enter Tryd.func37, Tryd.ntmps37
      go_wp2_with (fail)
      refine (CA.out _).mono ?_
      rintro e w1 ⟨rfl, hb1⟩
      replace B0 := Lib.hid (B0.out.step hb1)
      clear p0 p1 p2 p3 q0 q1 q2 q3 hb1
      obtain ⟨p0, p1, p2, p3⟩ := tok_cells B0.out.2.1; obtain ⟨q0, q1, q2, q3⟩ := tok_cells B0.out.2.2
      go_wp2_with (fail)
      refine (CB.out _).mono ?_
      rintro e w1 ⟨rfl, hb1⟩
      replace B0 := Lib.hid (B0.out.step hb1)
      clear p0 p1 p2 p3 q0 q1 q2 q3 hb1
      obtain ⟨p0, p1, p2, p3⟩ := tok_cells B0.out.2.1; obtain ⟨q0, q1, q2, q3⟩ := tok_cells B0.out.2.2
      go_wp2_with (fail)
      all_goals
        go_ret
        refine RetV.bool ?_ B0.out.1
        rw [HG.out]
        first | (simp [*]; done) | (simp [*]; omega) | (simp [*]; intros; omega)
set_option maxHeartbeats 2000000 in
theorem c_ref26_Check (t : Tok) (w : World) : Calls Tryd.prog 34 #[.agg t.arr] w (RetV w (.bool t.ok)) := by
  have B0 := Lib.hid (At.new w 72 t.arr)
  obtain ⟨q0, q1, q2, q3⟩ := tok_cells B0.out.2
  have E := Lib.hid (tok_ok_eq t)
  go_enter Tryd.func34, Tryd.ntmps34
  go_wp2_with (fail)
  all_goals
    go_ret
    refine RetV.bool ?_ B0.out.1
    rw [E.out]
    first | (simp [*]; done) | (simp [*]; omega) | (simp [*]; intros; omega)
/-- The first k of a token's numbers. -/
def preB (t : Tok) (k : Nat) : List UInt8 := (([t.dev, t.epoch, t.seq, t.cursor] : List Int).take k).flatMap num
theorem preB_all (t : Tok) : preB t 4 = num t.dev ++ (num t.epoch ++ (num t.seq ++ num t.cursor)) := by simp [preB]
set_option maxHeartbeats 4000000 in
set_option maxRecDepth 4000 in
theorem c_token_Put (b : List UInt8) (B : Option Addr) (cb : Nat) (t : Tok) (w : World) (hb : InB w B cb b) (hbl : b.length ≤ 900000) :
    Calls Tryd.prog 39 #[.slice B b.length cb, .agg t.arr] w (RetS 1 bc 5 w (b ++ tokB t)) := by
  have hL' := hb.1
  have hC' := hb.2.1
  have HB := Lib.hid hb
  have CC := Lib.hid (c_token_Check t)
  have B0 := Lib.hid (At.new w 72 t.arr)
  obtain ⟨q0, q1, q2, q3⟩ := tok_cells B0.out.2
  clear hb
  cases hok : t.ok
  all_goals
    replace CC := Lib.hid (by have := CC.out; rw [hok] at this; exact this)
  · have H : Hid (b = b ++ tokB t) := by show _ = _; rw [tokB_bad hok, List.append_nil]
    clear hok
    go_enter Tryd.func39, Tryd.ntmps39
    go_wp2_with (fail)
    refine (CC.out _).mono ?_
    rintro e w1 ⟨rfl, hb1⟩
    replace B0 := Lib.hid (B0.out.step hb1)
    go_wp2_with (fail)
    refine (c_Clone_b b B cb _ (HB.out.below B0.out.1)).mono ?_
    rintro e w2 ⟨v2, rfl, own2, hb2⟩
    go_wp2_with (fail)
    go_ret
    exact RetS.of own2 B0.out.1.size H.out (B0.out.1.trans (hb2.mono B0.out.1.size))
  · have HF := Lib.hid (tokB_ok hok)
    clear hok
    have ix0 : ∀ w, (Instr.index 138 (.agg t.arr) (.int .i64 0)).run Tryd.prog w = .ok (.int .i64 t.dev) w := fun _ => by kernel_rfl
    have ix1 : ∀ w, (Instr.index 138 (.agg t.arr) (.int .i64 1)).run Tryd.prog w = .ok (.int .i64 t.epoch) w := fun _ => by kernel_rfl
    have ix2 : ∀ w, (Instr.index 138 (.agg t.arr) (.int .i64 2)).run Tryd.prog w = .ok (.int .i64 t.seq) w := fun _ => by kernel_rfl
    have ix3 : ∀ w, (Instr.index 138 (.agg t.arr) (.int .i64 3)).run Tryd.prog w = .ok (.int .i64 t.cursor) w := fun _ => by kernel_rfl
    go_enter Tryd.func39, Tryd.ntmps39
    go_wp2_with (fail)
    refine (CC.out _).mono ?_
    rintro e w1 ⟨rfl, hb1⟩
    replace B0 := Lib.hid (B0.out.step hb1)
    clear q0 q1 q2 q3 hb1
    obtain ⟨q0, q1, q2, q3⟩ := tok_cells B0.out.2
    go_wp2_with (fail)
    refine (c_token_parts t _).mono ?_
    rintro e w2 ⟨rfl, hb2⟩
    replace B0 := Lib.hid (B0.out.step hb2)
    clear hb2 q0 q1 q2 q3
    go_wp2_with (fail)
    have H0 := Lib.hid (HB.out.below B0.out.1)
    go_loopw [0, 6, 14] (fun v _ i wr => ∃ (k : Nat) (acc : List UInt8) (A1 : Option Addr) (c1 : Nat), k ≤ 4 ∧ i = .int .i64 k ∧ v = .slice A1 acc.length c1 ∧ acc.length ≤ b.length + 7 * k ∧ InB wr A1 c1 acc ∧ Hid (0 < k → wr.ownsRow w.heap.size 5 1 v acc.length (acc.flatMap bc)) ∧ Hid (acc = b ++ preB t k) ∧ Hid (At w wr t.arr))
      (fun _ _ i _ => 4 - (intOf i).toNat)
    case atStart => exact ⟨0, b, B, cb, by omega, rfl, rfl, by omega, H0.out, fun h => absurd h (by omega), by show _ = _; simp [preB], B0.out⟩
    case round =>
      obtain ⟨k, acc, A1, c1, hk, rfl, rfl, hac, in1, O, N, BR⟩ := hrel
      have hbz := BR.out.1.size
      clear B0 H0
      have hcs : k = 0 ∨ k = 1 ∨ k = 2 ∨ k = 3 ∨ k = 4 := by omega
      clear hk
      rcases hcs with rfl | rfl | rfl | rfl | rfl
      · have hn := (num_len t.dev).2
        go_wp2_with (go_at_call 67; refine (c_octet_Num acc A1 c1 _ _ in1).mono ?_; rintro e w3 ⟨v3, rfl, own3, hb3⟩)
        obtain ⟨A3, c3, rfl, in3⟩ := In.of_own bc_len own3 (by simp only [List.length_append]; omega)
        have O3 := Lib.hid (own_base own3 hbz)
        have B3 := Lib.hid (BR.out.step hb3)
        have L3 : (acc ++ num t.dev).length ≤ b.length + 7 * 1 := by rw [List.length_append]; omega
        have N3 : Hid (acc ++ num t.dev = b ++ preB t 1) := by show _ = _; rw [N.out]; simp [preB]
        clear own3 hb3 O N BR
        go_roundw
        case rel => exact ⟨1, acc ++ num t.dev, A3, c3, by omega, rfl, by first | rfl | (rw [List.length_append]), L3, in3, fun _ => by first | exact O3.out | simpa using O3.out, N3, B3⟩
        case measure => simp [intOf]
      · have hn := (num_len t.epoch).2
        go_wp2_with (go_at_call 67; refine (c_octet_Num acc A1 c1 _ _ in1).mono ?_; rintro e w3 ⟨v3, rfl, own3, hb3⟩)
        obtain ⟨A3, c3, rfl, in3⟩ := In.of_own bc_len own3 (by simp only [List.length_append]; omega)
        have O3 := Lib.hid (own_base own3 hbz)
        have B3 := Lib.hid (BR.out.step hb3)
        have L3 : (acc ++ num t.epoch).length ≤ b.length + 7 * 2 := by rw [List.length_append]; omega
        have N3 : Hid (acc ++ num t.epoch = b ++ preB t 2) := by show _ = _; rw [N.out]; simp [preB]
        clear own3 hb3 O N BR
        go_roundw
        case rel => exact ⟨2, acc ++ num t.epoch, A3, c3, by omega, rfl, by first | rfl | (rw [List.length_append]), L3, in3, fun _ => by first | exact O3.out | simpa using O3.out, N3, B3⟩
        case measure => simp [intOf]
      · have hn := (num_len t.seq).2
        go_wp2_with (go_at_call 67; refine (c_octet_Num acc A1 c1 _ _ in1).mono ?_; rintro e w3 ⟨v3, rfl, own3, hb3⟩)
        obtain ⟨A3, c3, rfl, in3⟩ := In.of_own bc_len own3 (by simp only [List.length_append]; omega)
        have O3 := Lib.hid (own_base own3 hbz)
        have B3 := Lib.hid (BR.out.step hb3)
        have L3 : (acc ++ num t.seq).length ≤ b.length + 7 * 3 := by rw [List.length_append]; omega
        have N3 : Hid (acc ++ num t.seq = b ++ preB t 3) := by show _ = _; rw [N.out]; simp [preB]
        clear own3 hb3 O N BR
        go_roundw
        case rel => exact ⟨3, acc ++ num t.seq, A3, c3, by omega, rfl, by first | rfl | (rw [List.length_append]), L3, in3, fun _ => by first | exact O3.out | simpa using O3.out, N3, B3⟩
        case measure => simp [intOf]
      · have hn := (num_len t.cursor).2
        go_wp2_with (go_at_call 67; refine (c_octet_Num acc A1 c1 _ _ in1).mono ?_; rintro e w3 ⟨v3, rfl, own3, hb3⟩)
        obtain ⟨A3, c3, rfl, in3⟩ := In.of_own bc_len own3 (by simp only [List.length_append]; omega)
        have O3 := Lib.hid (own_base own3 hbz)
        have B3 := Lib.hid (BR.out.step hb3)
        have L3 : (acc ++ num t.cursor).length ≤ b.length + 7 * 4 := by rw [List.length_append]; omega
        have N3 : Hid (acc ++ num t.cursor = b ++ preB t 4) := by show _ = _; rw [N.out]; simp [preB]
        clear own3 hb3 O N BR
        go_roundw
        case rel => exact ⟨4, acc ++ num t.cursor, A3, c3, by omega, rfl, by first | rfl | (rw [List.length_append]), L3, in3, fun _ => by first | exact O3.out | simpa using O3.out, N3, B3⟩
        case measure => simp [intOf]
      · have O4 := Lib.hid (O.out (by omega))
        have H : Hid (acc = b ++ tokB t) := by show _ = _; rw [N.out, preB_all, HF.out]; simp
        go_wp2_with (fail)
        go_ret
        exact RetS.of O4.out (Nat.le_refl _) H.out BR.out.1
end Go.Proofs.YtfgjhgecmelccaaDoor
namespace Go.Proofs.YtfgjhgecmelccaaDoor
open Go.RowKit

theorem len_ne4 {l : List (List UInt8)} (h : ∀ a b c d, l ≠ [a, b, c, d]) : l.length ≠ 4 := by
  intro e
  match l, e with
  | [a, b, c, d], _ => exact h a b c d rfl
theorem tkParse_no {s : List UInt8} (h : ∀ a b c d, cuts 46 s ≠ [a, b, c, d]) : tkParse s = none := by
  unfold tkParse
  split
  · rename_i a b c d hs; exact absurd hs (h a b c d)
  · rfl
end Go.Proofs.YtfgjhgecmelccaaDoor
