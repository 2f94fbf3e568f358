/-
  Lemmas (walks and plain laws), in one text.
-/
import Derived.Test.YtfgjhgecmelccaaDoorTt6
import Derived.Test.YtfgjhgecmelccaaDoorRows
import Derived.WalkKit
import Derived.WalkSpells
import Derived.WalkLawsBesides
import Derived.Lib.Hide
import Derived.Deep.QuietTactic
import Derived.BigQuiet
import Derived.Maps.AppendAt
import Derived.WalkSmall
import Derived.ProofKit
import Derived.OpenShut
import Derived.JoinedCond
import Derived.Deep.Slices
import Derived.Deep.Fields
import Derived.Carry
import Derived.HandedShaped
import Derived.Shelf.Strings.Builder1
import Derived.Shelf.Strings.Builder2
import Derived.Shelf.Strings.OnBuilder
import Derived.Shelf.Small.Wraps
import Derived.Shelf.Utf8.RuneCount
import Derived.Shelf.Strconv.Itoa0
import Derived.Shelf.Strconv.Itoa1
import Derived.Shelf.LaysM
import Derived.Shelf.Strconv.Itoa2
import Derived.Shelf.Strconv.Itoa3
import Derived.Shelf.Strings.Search1
import Derived.Shelf.Strings.Search2
import Derived.Shelf.Strings.Search3
import Derived.Shelf.Strings.Count
import Derived.Shelf.Strings.Shaped
import Derived.Shelf.Strings.Split
import Derived.Shelf.Strings.SplitShaped
import Derived.Shelf.Unicode.Decode
import Derived.Shelf.Strings.RuneCount
import Derived.Shelf.Strings.Explode
import Derived.Shelf.Unicode.DecodeSlow
import Derived.Test.YtfgjhgecmelccaaDoorProg
import Derived.Deep.AppendSrc
import Derived.Lib.AppendStr
import Derived.Laws.BytesArg
import Derived.Lib.AppendIntMem
import Derived.Lib.ItoaLen
import Derived.Lib.TrailingZeros
import Derived.Lib.SplitLaws
import Derived.Lib.ItoaNum
import Derived.Shelf.Strings.PiecesUse
import Derived.Shelf.Spec.TrailingZeros
import Derived.RangeFuncNested
import Derived.RangeFuncBound
import Derived.RangeFuncCalls
import Derived.RangeFuncLeaves
import Derived.Shelf.Abstract
import Derived.Shelf.RegionOpen
import Derived.OwnWalkIn
import Derived.TacticsInMore
import Derived.LoopNIn
import Derived.LoopIn
import Derived.Test.YtfgjhgecmelccaaDoorTie
import Derived.Lib.LaidTab
import Derived.LaidMore
import Derived.Lay
import Derived.Stop.LaidErr
import Derived.SevenTiedAt
import Derived.Test.YtfgjhgecmelccaaDoorCards
import Derived.Deep.CutBlock
import Derived.Deep.DeepCutAuto
import Derived.Laws.Tables
import Derived.Laws.Rows
import Derived.Laws.CopyOwn
import Derived.Outline
import Derived.IntWalk
import Derived.Lib.EndianBits
import Derived.StillTail
import Derived.Laws.IdiomStrings
import Derived.ChangeKeysEq
import Derived.Laws.StructEq
namespace Go.Proofs.YtfgjhgecmelccaaDoor
open Go.RowKit

/-- A token whose cursor is behind all. -/
def Tok.whole (t : Tok) : Bool := t.ok && decide (t.cursor = 1073741824)
/-- The texts of a token's parts. -/
def tkL (t : Tok) : List (List UInt8) := [Lib.itoa t.dev, Lib.itoa t.epoch, Lib.itoa t.seq, Lib.itoa t.cursor]
def tkW (t : Tok) : List (List UInt8) := [Lib.itoa t.dev, Lib.itoa t.epoch, Lib.itoa t.seq, [97, 108, 108]]
def tokT (t : Tok) : List UInt8 := if t.ok then Lib.join (if t.cursor = 1073741824 then tkW t else tkL t) [46] else []
theorem tokT_bad {t : Tok} (h : t.ok = false) : tokT t = [] := by unfold tokT; rw [h]; rfl
theorem tokT_whole {t : Tok} (h : t.ok = true) (hc : t.whole = true) : tokT t = Lib.join (tkW t) [46] := by
  unfold Tok.whole at hc; rw [h] at hc; unfold tokT; rw [if_pos h, if_pos (by simpa using hc)]
theorem tokT_part {t : Tok} (h : t.ok = true) (hc : t.whole = false) : tokT t = Lib.join (tkL t) [46] := by
  unfold Tok.whole at hc; rw [h] at hc; unfold tokT; rw [if_pos h, if_neg (by simpa using hc)]
set_option maxHeartbeats 1000000 in
theorem c_token_Whole (t : Tok) (w : World) : Calls Tryd.prog 36 #[.agg t.arr] w (RetV w (.bool t.whole)) := by
  have B0 := Lib.hid (At.new w 72 t.arr)
  have HC := Lib.hid (show ∀ w', Calls Tryd.prog 33 #[.agg t.arr] w' (RetV w' (.bool t.ok)) from c_token_Check t)
  have HW : Hid (t.whole = (t.ok && decide (t.cursor = 1073741824))) := rfl
  obtain ⟨q0, q1, q2, q3⟩ := tok_cells B0.out.2
  cases hok : t.ok
  all_goals
    replace HC := Lib.hid (by have := HC.out; rw [hok] at this; exact this)
    replace HW := Lib.hid (by have := HW.out; rw [hok] at this; exact this)
    clear hok
    go_enter Tryd.func36, Tryd.ntmps36
    go_wp2_with (fail)
    refine (HC.out _).mono ?_
    rintro e w1 ⟨rfl, hb1⟩
    replace B0 := Lib.hid (B0.out.step hb1)
    clear q0 q1 q2 q3 hb1
    obtain ⟨q0, q1, q2, q3⟩ := tok_cells B0.out.2
    go_wp2_with (fail)
    go_ret
    exact RetV.bool (by rw [HW.out]; first | rfl | (simp; done) | (rw [Bool.true_and, Bool.eq_iff_iff]; simp)) B0.out.1
theorem At.up {w w1 w2 : World} {cs : Array Value} (h : At w w1 cs) (hb : Below (w.heap.size + 1) w1 w2) : At w w2 cs := ⟨h.1.trans (hb.mono (by omega)), h.2.below hb (by omega)⟩
theorem In.own3' {α : Type} {k : Nat} {cs : α → List Value} {w : World} {base : Nat} {e : TypeId} {A : Option Addr} {c : Nat} {l : List α} (hk : ∀ x, (cs x).length = k) (h : w.ownsRow base e k (.slice A l.length c) l.length (l.flatMap cs)) (hs : l.length ≤ 4294967296) : In k cs w A c l := by
  obtain ⟨A', c', hv, hin⟩ := In.of_own hk h hs
  injection hv with e1 _ e2
  subst e1 e2
  exact hin
theorem itoa_len (n : Int) (h0 : -9223372036854775808 ≤ n) (h1 : n ≤ 9223372036854775807) : (Lib.itoa n).length ≤ 21 := by
  have := Lib.itoa_length_le n h0 h1
  omega
/-- The first k of a token's texts. -/
def preT (t : Tok) (k : Nat) : List (List UInt8) := (tkL t).take k
set_option maxHeartbeats 1000000 in
theorem token_Show_bad (t : Tok) (w : World) (hok : t.ok = false) : Calls Tryd.prog 41 #[.agg t.arr] w (RetV w (.string (str []))) := by
  have B0 := Lib.hid (At.new w 72 t.arr)
  have HC := Lib.hid (show ∀ w', Calls Tryd.prog 33 #[.agg t.arr] w' (RetV w' (.bool false)) from fun w' => by have := c_token_Check t w'; rw [hok] at this; exact this)
  clear hok
  go_enter Tryd.func41, Tryd.ntmps41
  obtain ⟨q0, q1, q2, q3⟩ := tok_cells B0.out.2
  go_wp2_with (fail)
  refine (HC.out _).mono ?_
  rintro e w1 ⟨rfl, hb1⟩
  go_wp2_with (fail)
  go_ret
  exact RetV.of rfl (B0.out.1.trans (hb1.mono B0.out.1.size))
set_option maxHeartbeats 4000000 in
set_option maxRecDepth 4000 in
theorem token_Show_ok (t : Tok) (w : World) (hok : t.ok = true) (hP : PowTab w) : Calls Tryd.prog 41 #[.agg t.arr] w (RetV w (.string (str (tokT t)))) := by
  have B0 := Lib.hid (At.new w 72 t.arr)
  have HC := Lib.hid (show ∀ w', Calls Tryd.prog 33 #[.agg t.arr] w' (RetV w' (.bool true)) from fun w' => by have := c_token_Check t w'; rw [hok] at this; exact this)
  have HP := Lib.hid hP
  have Hok := Lib.hid hok
  obtain ⟨b0, b1, b2, b3, b4, b5, b6, b7⟩ := Tok.ok_iff.1 hok
  have i0 := itoa_len t.dev (by omega) (by omega)
  have i1 := itoa_len t.epoch (by omega) (by omega)
  have i2 := itoa_len t.seq (by omega) (by omega)
  have i3 := itoa_len t.cursor (by omega) (by omega)
  have T0 := Lib.hid (fun (w' : World) (h : Below w.heap.size w w') => c_bits_Tens t.dev w' (by omega) (by omega) (HP.out.below h))
  have T1 := Lib.hid (fun (w' : World) (h : Below w.heap.size w w') => c_bits_Tens t.epoch w' (by omega) (by omega) (HP.out.below h))
  have T2 := Lib.hid (fun (w' : World) (h : Below w.heap.size w w') => c_bits_Tens t.seq w' (by omega) (by omega) (HP.out.below h))
  have T3 := Lib.hid (fun (w' : World) (h : Below w.heap.size w w') => c_bits_Tens t.cursor w' (by omega) (by omega) (HP.out.below h))
  have ix0 : ∀ w, (Instr.index 138 (.agg t.arr) (.int .i64 0)).run Tryd.prog w = .ok (.int .i64 t.dev) w := fun _ => by kernel_rfl
  have ix1 : ∀ w, (Instr.index 138 (.agg t.arr) (.int .i64 1)).run Tryd.prog w = .ok (.int .i64 t.epoch) w := fun _ => by kernel_rfl
  have ix2 : ∀ w, (Instr.index 138 (.agg t.arr) (.int .i64 2)).run Tryd.prog w = .ok (.int .i64 t.seq) w := fun _ => by kernel_rfl
  have ix3 : ∀ w, (Instr.index 138 (.agg t.arr) (.int .i64 3)).run Tryd.prog w = .ok (.int .i64 t.cursor) w := fun _ => by kernel_rfl
  have HL := Lib.hid (show (Lib.join (tkL t) [46]).length ≤ 100 ∧ (Lib.join (tkW t) [46]).length ≤ 100 by
    unfold tkL tkW
    simp [Lib.join]
    omega)
  clear hok hP b0 b1 b2 b3 b4 b5 b6 b7 i0 i1 i2 i3
  go_enter Tryd.func41, Tryd.ntmps41
  obtain ⟨q0, q1, q2, q3⟩ := tok_cells B0.out.2
  go_wp2_with (fail)
  refine (HC.out _).mono ?_
  rintro e w1 ⟨rfl, hb1⟩
  replace B0 := Lib.hid (B0.out.step hb1)
  clear hb1 HC
  clear q0 q1 q2 q3
  obtain ⟨q0, q1, q2, q3⟩ := tok_cells B0.out.2
  go_wp2_with (fail)
  refine (c_token_parts t _).mono ?_
  rintro e w2 ⟨rfl, hb2⟩
  replace B0 := Lib.hid (B0.out.step hb2)
  clear hb2 q0 q1 q2 q3
  go_wp2_with (fail)
  go_loopw [3, 11] (fun v i wr => ∃ k : Nat, k ≤ 4 ∧ i = .int .i64 k ∧ Hid (wr.ownsRow (w.heap.size + 1) 9 1 v k ((preT t k).flatMap sc)) ∧ Hid (At w wr t.arr))
    (fun _ i _ => 4 - (intOf i).toNat)
  case atStart => exact ⟨0, by omega, rfl, World.ownsRow_nil _ _ _ _, B0.out⟩
  case round =>
    obtain ⟨k, hk, rfl, O, B1⟩ := hrel
    clear B0
    have hcs : k = 0 ∨ k = 1 ∨ k = 2 ∨ k = 3 ∨ k = 4 := by omega
    clear hk
    rcases hcs with rfl | rfl | rfl | rfl | rfl
    · go_wp2_with (fail)
      refine (T0.out _ B1.out.1).mono ?_
      rintro e w3 ⟨rfl, hb3⟩
      replace B1 := Lib.hid (B1.out.step hb3)
      have O3 := Lib.hid (own_below O.out hb3)
      clear hb3 O
      obtain ⟨x, hx⟩ : ∃ x, x = Lib.itoa t.dev := ⟨_, rfl⟩
      rw [← hx]
      have HX := Lib.hid hx
      clear hx
      go_wp2_with ((at_builtin; refine Stop.out ?_))
      have hz := B1.out.1.size
      refine Stop.mk (wpList_app _ rfl _ _ elemS rfl (w.heap.size + 1) _ 0 _ rfl (own_below O3.out ((Below.refl _ _).alloc (Nat.le_refl _) _)) _ 1 1 (sc x) rfl (Src.new _ (sc x) _ 1 rfl) (by simp [sc, Value.oneCell']) (by omega) (by have := B1.out.2.lt; simp; omega) ?_)
      intro v4 w4 own4 _ hb4 _
      have B4 := Lib.hid ((B1.out.alloc _).up hb4)
      go_wp2_with (fail)
      go_roundw
      case rel => exact ⟨1, by omega, rfl, by have := own4; rw [HX.out] at this; exact this, B4.out⟩
      case measure => simp [intOf]
    · go_wp2_with (fail)
      refine (T1.out _ B1.out.1).mono ?_
      rintro e w3 ⟨rfl, hb3⟩
      replace B1 := Lib.hid (B1.out.step hb3)
      have O3 := Lib.hid (own_below O.out hb3)
      clear hb3 O
      obtain ⟨x, hx⟩ : ∃ x, x = Lib.itoa t.epoch := ⟨_, rfl⟩
      rw [← hx]
      have HX := Lib.hid hx
      clear hx
      go_wp2_with ((at_builtin; refine Stop.out ?_))
      have hz := B1.out.1.size
      refine Stop.mk (wpList_app _ rfl _ _ elemS rfl (w.heap.size + 1) _ 1 _ rfl (own_below O3.out ((Below.refl _ _).alloc (Nat.le_refl _) _)) _ 1 1 (sc x) rfl (Src.new _ (sc x) _ 1 rfl) (by simp [sc, Value.oneCell']) (by omega) (by have := B1.out.2.lt; simp; omega) ?_)
      intro v4 w4 own4 _ hb4 _
      have B4 := Lib.hid ((B1.out.alloc _).up hb4)
      go_wp2_with (fail)
      go_roundw
      case rel => exact ⟨2, by omega, rfl, by have := own4; rw [HX.out] at this; exact this, B4.out⟩
      case measure => simp [intOf]
    · go_wp2_with (fail)
      refine (T2.out _ B1.out.1).mono ?_
      rintro e w3 ⟨rfl, hb3⟩
      replace B1 := Lib.hid (B1.out.step hb3)
      have O3 := Lib.hid (own_below O.out hb3)
      clear hb3 O
      obtain ⟨x, hx⟩ : ∃ x, x = Lib.itoa t.seq := ⟨_, rfl⟩
      rw [← hx]
      have HX := Lib.hid hx
      clear hx
      go_wp2_with ((at_builtin; refine Stop.out ?_))
      have hz := B1.out.1.size
      refine Stop.mk (wpList_app _ rfl _ _ elemS rfl (w.heap.size + 1) _ 2 _ rfl (own_below O3.out ((Below.refl _ _).alloc (Nat.le_refl _) _)) _ 1 1 (sc x) rfl (Src.new _ (sc x) _ 1 rfl) (by simp [sc, Value.oneCell']) (by omega) (by have := B1.out.2.lt; simp; omega) ?_)
      intro v4 w4 own4 _ hb4 _
      have B4 := Lib.hid ((B1.out.alloc _).up hb4)
      go_wp2_with (fail)
      go_roundw
      case rel => exact ⟨3, by omega, rfl, by have := own4; rw [HX.out] at this; exact this, B4.out⟩
      case measure => simp [intOf]
    · go_wp2_with (fail)
      refine (T3.out _ B1.out.1).mono ?_
      rintro e w3 ⟨rfl, hb3⟩
      replace B1 := Lib.hid (B1.out.step hb3)
      have O3 := Lib.hid (own_below O.out hb3)
      clear hb3 O
      obtain ⟨x, hx⟩ : ∃ x, x = Lib.itoa t.cursor := ⟨_, rfl⟩
      rw [← hx]
      have HX := Lib.hid hx
      clear hx
      go_wp2_with ((at_builtin; refine Stop.out ?_))
      have hz := B1.out.1.size
      refine Stop.mk (wpList_app _ rfl _ _ elemS rfl (w.heap.size + 1) _ 3 _ rfl (own_below O3.out ((Below.refl _ _).alloc (Nat.le_refl _) _)) _ 1 1 (sc x) rfl (Src.new _ (sc x) _ 1 rfl) (by simp [sc, Value.oneCell']) (by omega) (by have := B1.out.2.lt; simp; omega) ?_)
      intro v4 w4 own4 _ hb4 _
      have B4 := Lib.hid ((B1.out.alloc _).up hb4)
      go_wp2_with (fail)
      go_roundw
      case rel => exact ⟨4, by omega, rfl, by have := own4; rw [HX.out] at this; exact this, B4.out⟩
      case measure => simp [intOf]
    · obtain ⟨g, c, rfl, h4, hc, hg, hgl⟩ := own_form' O.out (by omega)
      obtain ⟨q0, q1, q2, q3⟩ := tok_cells B1.out.2
      have HO := Lib.hid Hok.out
      cases hwh : t.whole
      · have HR := Lib.hid (tokT_part Hok.out hwh)
        have HWh := Lib.hid (show ∀ w', Calls Tryd.prog 36 #[.agg t.arr] w' (RetV w' (.bool false)) from fun w' => by have := c_token_Whole t w'; rw [hwh] at this; exact this)
        clear hwh
        go_wp2_with (fail)
        refine (HWh.out _).mono ?_
        rintro e w5 ⟨rfl, hb5⟩
        replace B1 := Lib.hid (B1.out.step hb5)
        have hin := In.own3' (l := tkL t) sc_len (own_below O.out hb5) (by simp [tkL])
        clear q0 q1 q2 q3 hb5
        go_wp2_with (fail)
        refine (c_Join (tkL t) _ c [46] _ hin (by have := HL.out.1; omega) (by simp [tkL])).mono ?_
        rintro e w6 ⟨rfl, hb6⟩
        go_wp2_with (fail)
        go_ret
        exact RetV.of (by rw [HR.out]; rfl) (B1.out.1.trans (hb6.mono B1.out.1.size))
      · have HR := Lib.hid (tokT_whole Hok.out hwh)
        have HWh := Lib.hid (show ∀ w', Calls Tryd.prog 36 #[.agg t.arr] w' (RetV w' (.bool true)) from fun w' => by have := c_token_Whole t w'; rw [hwh] at this; exact this)
        clear hwh
        go_wp2_with (fail)
        refine (HWh.out _).mono ?_
        rintro e w5 ⟨rfl, hb5⟩
        have O5 := Lib.hid (own_below O.out hb5)
        replace B1 := Lib.hid (B1.out.step hb5)
        have hg5 := Nat.lt_of_lt_of_le hgl hb5.size
        have fz := O5.out.frozenAt 3
        have c3 := O5.out.cells (g := g) rfl 3 (.string (str (Lib.itoa t.cursor))) rfl
        rw [add_lit] at c3
        obtain ⟨O6, -⟩ := O5.out.stored 3 (.string (str [97, 108, 108]))
        have B6 := Lib.hid (B1.out.up ((Below.refl _ _).setCell (p := ⟨g, 3, none⟩) (by simpa using hg) (.string (str [97, 108, 108]))))
        have hin := Lib.hid (In.own3' (l := tkW t) sc_len O6 (by simp [tkW]))
        clear q0 q1 q2 q3 hb5 O6 B1 O hgl
        go_wp2_with (fail)
        refine (c_Join (tkW t) _ c [46] _ hin.out (by have := HL.out.2; omega) (by simp [tkW])).mono ?_
        rintro e w6 ⟨rfl, hb6⟩
        go_wp2_with (fail)
        go_ret
        exact RetV.of (by rw [HR.out]; rfl) (B6.out.1.trans (hb6.mono B6.out.1.size))
theorem c_token_Show (t : Tok) (w : World) (hP : PowTab w) : Calls Tryd.prog 41 #[.agg t.arr] w (RetV w (.string (str (tokT t)))) := by
  cases h : t.ok
  · rw [tokT_bad h]; exact token_Show_bad t w h
  · exact token_Show_ok t w h hP
end Go.Proofs.YtfgjhgecmelccaaDoor
namespace Go.Proofs.YtfgjhgecmelccaaDoor
open Go.RowKit

/-- The bytes of a text, in a block of the call's own. -/
structure Laid (w w' : World) (A : Option Addr) (c : Nat) (l : List UInt8) : Prop where
  pos : A = some ⟨w.heap.size, 0, none⟩
  below : Below w.heap.size w w'
  size : w'.heap.size = w.heap.size + 1
  reads : InB w' A c l
theorem run_str_bytes {P : Program} (w : World) {src dst e : TypeId} (hs : P.underlying src = some .string) (hd : P.underlying dst = some (.slice e)) (he : P.underlying e = some (.int .u8)) (l : List UInt8) (hl : l.length ≤ 4294967296) :
    ∃ A c w', (convert src dst (.string (str l))).run P w = .ok (.slice A l.length c) w' ∧ Laid w w' A c l := by
  have h := run_bytes_of_string (P := P) w src dst e (str l) hs hd he
  have hge := grownCap_ge w (str l).size 0 e
  have hcm := grownCap_le_maxLen w (str l).size 0 e (by rw [str_size]; unfold maxLen; omega)
  rw [str_size] at h hge hcm
  refine ⟨_, _, _, h, rfl, ((Below.refl _ _).drew).alloc (Nat.le_refl _) _, World.size_alloc _ _, hge, by unfold maxLen at hcm; omega, hl, .inr ⟨w.heap.size, 0, rfl, by rw [World.size_alloc]; exact Nat.lt_succ_self _, ?_⟩⟩
  intro i hi j u hu
  have hj : j < 1 := (List.getElem?_eq_some_iff.1 hu).1
  have h0 : j = 0 := by omega
  subst h0
  have hb := bytesRow_at (str l) (grownCap w l.length 0 e) i (by show i < l.toArray.size; simpa using hi)
  have hc := cell_of_row (w.drew.alloc (.cells (bytesRow (str l) (grownCap w l.length 0 e)) e ((bytesRow (str l) (grownCap w l.length 0 e)).size, (bytesRow (str l) (grownCap w l.length 0 e)).size + 1))) w.heap.size (0 + i * 1 + 0) _ _ _ (heap_alloc_new w.drew _)
  rw [hc, show 0 + i * 1 + 0 = i by omega, hb]
  simp only [bc, List.getElem?_cons_zero, Option.some.injEq] at hu
  rw [← hu]
  rfl
theorem wpList_strbytes {P : Program} {w : World} {ops : Array Oper} {rest : List Oper} {o : Oper} {a : Act} {Q : Exit → Act → World → Prop} (hgd : o.guard = none) (src dst : TypeId) (x : Operand) (ho : o.op = .convert src dst x)
    {e : TypeId} (hs : P.underlying src = some .string) (hd : P.underlying dst = some (.slice e)) (he : P.underlying e = some (.int .u8)) (l : List UInt8) (hx : a.eval x = .string (str l)) (hl : l.length ≤ 4294967296)
    (h : ∀ A c w', Laid w w' A c l → wpList P ops Q rest (a.put o.dst (.slice A l.length c)) w') : wpList P ops Q (o :: rest) a w := by
  refine wpList_plain hgd fun K hK => ?_
  obtain ⟨A, c, w', hrun, hl'⟩ := run_str_bytes (P := P) w hs hd he l hl
  unfold Oper.wp execOp
  simp only [ho, hx, hrun, Sem.run_bind, Sem.run_pure, Result.andThen_ok]
  exact hK _ _ (h A c w' hl')
theorem stop_conv {P : Program} {w : World} {ops : Array Oper} {rest : List Oper} {o : Oper} {a : Act} {Q : Exit → Act → World → Prop} (src dst : TypeId) (x : Operand) (_ : o.guard = none) (_ : o.op = .convert src dst x) (h : Stop (wpList P ops Q (o :: rest) a w)) : wpList P ops Q (o :: rest) a w := h
end Go.Proofs.YtfgjhgecmelccaaDoor
