/-
  Lemmas (walks and plain laws), in one text.
-/
import Derived.Test.YtkofjkadmknmjaaDoorVb8
import Derived.Test.YtkofjkadmknmjaaDoorRows
import Derived.WalkKit
import Derived.WalkSpells
import Derived.WalkLawsBesides
import Derived.Lib.Hide
import Derived.Deep.QuietTactic
import Derived.BigQuiet
import Derived.Maps.AppendAt
import Derived.WalkSmall
import Derived.ProofKit
import Derived.OpenShut
import Derived.JoinedCond
import Derived.Deep.Slices
import Derived.Deep.Fields
import Derived.Carry
import Derived.Shelf.Small.Wraps
import Derived.Shelf.Utf8.RuneCount
import Derived.Shelf.Strconv.Itoa0
import Derived.Shelf.Strconv.Itoa1
import Derived.Shelf.LaysM
import Derived.Shelf.Strconv.Itoa2
import Derived.Shelf.Strconv.Itoa3
import Derived.Shelf.Strings.Search1
import Derived.Shelf.Strings.Search2
import Derived.Shelf.Strings.Search3
import Derived.Shelf.Strings.Count
import Derived.Shelf.Strings.Shaped
import Derived.Shelf.Strings.Prefix
import Derived.Shelf.Strings.Split
import Derived.Shelf.Strings.SplitShaped
import Derived.Shelf.Unicode.DecodeSlow
import Derived.Test.YtkofjkadmknmjaaDoorProg
import Derived.Deep.AppendSrc
import Derived.Lib.AppendStr
import Derived.Laws.BytesArg
import Derived.Lib.AppendIntMem
import Derived.Lib.ItoaLen
import Derived.Test.YtkofjkadmknmjaaDoorTie
import Derived.Lib.LaidTab
import Derived.LaidMore
import Derived.Stop.LaidErr
import Derived.SevenTiedAt
import Derived.HandedShaped
import Derived.Test.YtkofjkadmknmjaaDoorCards
import Derived.Deep.CutBlock
import Derived.Deep.DeepCutAuto
import Derived.Laws.IdiomStrings
import Derived.Outline
import Derived.IntWalk
import Derived.StillTail
import Derived.Laws.Tables
import Derived.Laws.Rows
import Derived.ChangeKeysEq
import Derived.Laws.StructEq
import Derived.Lib.AppendZeros
import Derived.Deep.Quiet
import Derived.OwnWalk
import Derived.Lib.TrailingZeros
import Derived.Lib.SplitLaws
import Derived.Lib.ItoaNum
import Derived.Shelf.Strings.PiecesUse
namespace Go.Proofs.YtkofjkadmknmjaaDoor
open Go.RowKit

def showV (x : Val) : List UInt8 := if x.ok then (if x.kind = 1 then tens x.n.toNat else if x.kind = 2 then quote x.s else [45]) else []
theorem showV_bad {x : Val} (h : x.ok = false) : showV x = [] := by unfold showV; rw [h]; rfl
theorem showV_num {x : Val} (h : x.ok = true) (hk : x.kind = 1) : showV x = tens x.n.toNat := by unfold showV; rw [if_pos h, if_pos hk]
theorem showV_text {x : Val} (h : x.ok = true) (hk : x.kind = 2) : showV x = quote x.s := by unfold showV; rw [if_pos h, if_neg (by omega), if_pos hk]
theorem showV_none {x : Val} (h : x.ok = true) (h1 : x.kind ≠ 1) (h2 : x.kind ≠ 2) : showV x = [45] := by unfold showV; rw [if_pos h, if_neg h1, if_neg h2]
theorem Val.num_bd {x : Val} (h : x.ok = true) (hk : x.kind = 1) : 0 ≤ x.n ∧ x.n ≤ 1099511627776 := by
  unfold Val.ok at h
  rw [if_neg (by omega), if_pos hk] at h
  simp only [Bool.and_eq_true, decide_eq_true_eq] at h
  exact h.1
theorem Val.text_bd {x : Val} (h : x.ok = true) (hk : x.kind = 2) : x.s.length ≤ 24 := by
  unfold Val.ok at h
  rw [if_neg (by omega), if_neg (by omega), if_pos hk] at h
  simp only [Bool.and_eq_true, decide_eq_true_eq] at h
  exact h.2
set_option maxHeartbeats 1000000 in
theorem c_ref04_Show (x : Val) (w : World) (hs : x.s.length ≤ 9223372036854775807) : Calls Tryd.prog 29 #[.agg x.c3] w (RetV w (.string (str (showV x)))) := by
  have B0 := Lib.hid (At.new w 23 x.c3)
  have q0 := B0.out.2.cell (show x.c3[0]? = _ from rfl)
  have q1 := B0.out.2.cell (show x.c3[1]? = _ from rfl)
  have q2 := B0.out.2.cell (show x.c3[2]? = _ from rfl)
  have CC := Lib.hid (fun w' => show Calls Tryd.prog 15 #[.agg x.c3] w' (RetV w' (.bool x.ok)) from c_ref04_Check x w' hs)
  cases hok : x.ok
  case false =>
    rw [hok] at CC
    rw [showV_bad hok]
    clear hok
    go_enter Tryd.func29, Tryd.ntmps29
    go_wp2_with (fail)
    refine (CC.out _).mono ?_
    rintro e w1 ⟨rfl, hb1⟩
    go_wp2_with (fail)
    go_ret
    exact RetV.of rfl (B0.out.1.trans (hb1.mono B0.out.1.size))
  case true =>
    rw [hok] at CC
    have hcs : x.kind = 1 ∨ (x.kind ≠ 1 ∧ x.kind = 2) ∨ (x.kind ≠ 1 ∧ x.kind ≠ 2) := by omega
    rcases hcs with g1 | ⟨g1, g2⟩ | ⟨g1, g2⟩
    · obtain ⟨b0, b1⟩ := Val.num_bd hok g1
      obtain ⟨m, hm⟩ : ∃ m : Nat, x.n = m := ⟨x.n.toNat, by omega⟩
      have E := Lib.hid (show showV x = tens m by rw [showV_num hok g1, hm]; rfl)
      have CT := Lib.hid (fun w' => show Calls Tryd.prog 36 #[.int .i64 x.n] w' (RetV w' (.string (str (tens m)))) by rw [hm]; exact c_ref03_Tens m (by omega) w')
      have j1 : (x.kind == 1) = true := by simpa using g1
      clear hok g1 hm b0 b1
      rw [E.out]
      go_enter Tryd.func29, Tryd.ntmps29
      go_wp2_with (fail)
      refine (CC.out _).mono ?_
      rintro e w1 ⟨rfl, hb1⟩
      replace B0 := Lib.hid (B0.out.step hb1)
      clear q0 q1 q2 hb1
      have q0 := B0.out.2.cell (show x.c3[0]? = _ from rfl)
      have q1 := B0.out.2.cell (show x.c3[1]? = _ from rfl)
      have q2 := B0.out.2.cell (show x.c3[2]? = _ from rfl)
      go_wp2_with (fail)
      refine (CT.out _).mono ?_
      rintro e w2 ⟨rfl, hb2⟩
      go_wp2_with (fail)
      go_ret
      exact RetV.of rfl (B0.out.1.trans (hb2.mono B0.out.1.size))
    · have E := Lib.hid (showV_text hok g2)
      have hl := Val.text_bd hok g2
      have CQ := Lib.hid (fun w' => c_ref04_Quote x.s w' (by omega))
      have j1 : (x.kind == 1) = false := by simpa using g1
      have j2 : (x.kind == 2) = true := by simpa using g2
      clear hok g1 g2
      rw [E.out]
      go_enter Tryd.func29, Tryd.ntmps29
      go_wp2_with (fail)
      refine (CC.out _).mono ?_
      rintro e w1 ⟨rfl, hb1⟩
      replace B0 := Lib.hid (B0.out.step hb1)
      clear q0 q1 q2 hb1
      have q0 := B0.out.2.cell (show x.c3[0]? = _ from rfl)
      have q1 := B0.out.2.cell (show x.c3[1]? = _ from rfl)
      have q2 := B0.out.2.cell (show x.c3[2]? = _ from rfl)
      go_wp2_with (fail)
      refine (CQ.out _).mono ?_
      rintro e w2 ⟨rfl, hb2⟩
      go_wp2_with (fail)
      go_ret
      exact RetV.of rfl (B0.out.1.trans (hb2.mono B0.out.1.size))
    · have E := Lib.hid (showV_none hok g1 g2)
      have j1 : (x.kind == 1) = false := by simpa using g1
      have j2 : (x.kind == 2) = false := by simpa using g2
      clear hok g1 g2
      rw [E.out]
      go_enter Tryd.func29, Tryd.ntmps29
      go_wp2_with (fail)
      refine (CC.out _).mono ?_
      rintro e w1 ⟨rfl, hb1⟩
      replace B0 := Lib.hid (B0.out.step hb1)
      clear q0 q1 q2 hb1
      have q0 := B0.out.2.cell (show x.c3[0]? = _ from rfl)
      go_wp2_with (fail)
      go_ret
      exact RetV.of rfl B0.out.1
/-- What the reference's Read tries. -/
def candV (t : List UInt8) : Val := match intR t 1099511627776 with
  | some n => ⟨1, n, []⟩
  | none => if 1 < t.length ∧ t.head? = some 34 ∧ t.length ≤ 98 then ⟨2, 0, opn (t.drop 1)⟩ else vz
theorem quote_len (u : List UInt8) : (quote u).length ≤ 4 * u.length + 2 := by
  have : (u.flatMap quC).length ≤ 4 * u.length := by
    induction u with
    | nil => simp
    | cons c u ih =>
      have hq : (quC c).length ≤ 4 := by
        unfold quC
        split
        · simp
        · split <;> simp
      rw [List.flatMap_cons, List.length_append, List.length_cons]; omega
  have e : (quote u).length = (u.flatMap quC).length + 2 := by unfold quote; rw [List.length_cons, List.length_append]; rfl
  omega
theorem candV_read (t : List UInt8) : valR t = if showV (candV t) = t then some (candV t) else none := by
  cases hi : intR t 1099511627776 with
  | some n =>
    obtain ⟨e1, e2, e3⟩ := tens_intR hi
    have hc : candV t = ⟨1, n, []⟩ := by unfold candV; rw [hi]
    have hne : t ≠ [45] := fun e => by
      rw [e] at hi
      have h0 : intR [45] 1099511627776 = none := by decide
      rw [h0] at hi; cases hi
    have hok : (⟨1, n, []⟩ : Val).ok = true := by unfold Val.ok; simp; omega
    rw [hc, showV_num hok rfl]
    simp only [Int.toNat_natCast]
    rw [if_pos e1.symm]
    unfold valR; rw [if_neg hne, hi]
  | none =>
    by_cases hb : 1 < t.length ∧ t.head? = some 34 ∧ t.length ≤ 98
    · have hc : candV t = ⟨2, 0, opn (t.drop 1)⟩ := by unfold candV; rw [hi]; exact if_pos hb
      have hne : t ≠ [45] := fun e => by rw [e] at hb; simp at hb
      rw [hc]
      have hv : valR t = match unquote t with | some u => if u.length ≤ 24 then some (⟨2, 0, u⟩ : Val) else none | none => none := by unfold valR; rw [if_neg hne, hi]; rfl
      rw [hv]
      cases hu : unquote t with
      | some u =>
        have hq := quote_unquote hu
        have ho : opn (t.drop 1) = u := by rw [← hq]; unfold quote; simp only [List.drop_succ_cons, List.drop_zero]; exact opn_quote u
        rw [ho]
        by_cases hl : u.length ≤ 24
        · have hok : (⟨2, 0, u⟩ : Val).ok = true := by unfold Val.ok; simp; exact hl
          rw [showV_text hok rfl, if_pos hq]
          exact if_pos hl
        · have hok : (⟨2, 0, u⟩ : Val).ok = false := by unfold Val.ok; simp; omega
          rw [showV_bad hok, if_neg (fun e => by rw [← e] at hb; simp at hb)]
          exact if_neg hl
      | none =>
        simp only
        rw [if_neg]
        intro e
        by_cases hl : (opn (t.drop 1)).length ≤ 24
        · have hok : (⟨2, 0, opn (t.drop 1)⟩ : Val).ok = true := by unfold Val.ok; simp; simpa using hl
          rw [showV_text hok rfl] at e
          have := unquote_quote (opn (t.drop 1))
          simp only at e
          rw [e, hu] at this
          cases this
        · have hok : (⟨2, 0, opn (t.drop 1)⟩ : Val).ok = false := by unfold Val.ok; simp; simpa using hl
          rw [showV_bad hok] at e
          rw [← e] at hb; simp at hb
    · have hc : candV t = vz := by unfold candV; rw [hi]; exact if_neg hb
      rw [hc, showV_none (by decide) (by decide) (by decide)]
      by_cases h45 : t = [45]
      · subst h45; rw [if_pos rfl]; exact valR_dash
      · rw [if_neg (fun e => h45 e.symm)]
        unfold valR
        rw [if_neg h45, hi]
        simp only
        cases hu : unquote t with
        | none => rfl
        | some u =>
          refine if_neg (fun hl => hb ?_)
          have hq := quote_unquote hu
          have := quote_len u
          rw [hq] at this
          refine ⟨?_, ?_, by omega⟩
          · rw [← hq]; unfold quote; simp
          · rw [← hq]; unfold quote; rfl
end Go.Proofs.YtkofjkadmknmjaaDoor
namespace Go.Proofs.YtkofjkadmknmjaaDoor
open Go.RowKit

/-- A world behind the making of two blocks, in which they are as they were made. -/
def At2 (w w' : World) (cs ds : Array Value) : Prop := Below w.heap.size w w' ∧ Blk w' w.heap.size cs ∧ Blk w' (w.heap.size + 1) ds
theorem At2.new (w : World) (s t : TypeId) (cs ds : Array Value) : At2 w ((w.alloc (.cells cs s)).alloc (.cells ds t)) cs ds := by
  have h := (At.new w s cs).alloc (.cells ds t)
  refine ⟨h.1, h.2, ?_⟩
  have := Blk.new (w.alloc (.cells cs s)) t ds
  simpa using this
theorem At2.step {w w1 w2 : World} {cs ds : Array Value} (h : At2 w w1 cs ds) (hb : Below w1.heap.size w1 w2) : At2 w w2 cs ds := ⟨h.1.trans (hb.mono h.1.size), h.2.1.below hb h.2.1.lt, h.2.2.below hb h.2.2.lt⟩
end Go.Proofs.YtkofjkadmknmjaaDoor
