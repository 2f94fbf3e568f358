/-
  Lemmas (walks and plain laws), in one text.
-/
import Derived.Test.YtjhndilflcigiaaDoorQd8
import Derived.Test.YtjhndilflcigiaaDoorRows
import Derived.WalkKit
import Derived.WalkSpells
import Derived.WalkLawsBesides
import Derived.Lib.Hide
import Derived.Deep.QuietTactic
import Derived.BigQuiet
import Derived.Maps.AppendAt
import Derived.WalkSmall
import Derived.ProofKit
import Derived.OpenShut
import Derived.JoinedCond
import Derived.Deep.Slices
import Derived.Deep.Fields
import Derived.Carry
import Derived.Shelf.Strings.Builder1
import Derived.Shelf.Strings.Builder2
import Derived.Shelf.Strings.OnBuilder
import Derived.Shelf.Strings.BuilderF
import Derived.Shelf.Strings.BuilderK
import Derived.Shelf.Strings.Builder2Cap
import Derived.Shelf.Strconv.Itoa0
import Derived.Shelf.Strconv.Itoa1
import Derived.Shelf.LaysM
import Derived.Shelf.Strconv.Itoa2
import Derived.Shelf.Strconv.Itoa3
import Derived.Ground.Names2Prog
import Derived.Shelf.Slices.Clone
import Derived.Shelf.Slices.SearchI
import Derived.Ground.SlgnProg
import Derived.Shelf.SlicesE.Clone
import Derived.Test.YtjhndilflcigiaaDoorProg
import Derived.Deep.AppendSrc
import Derived.Lib.AppendStr
import Derived.Laws.BytesArg
import Derived.Lib.AppendIntMem
import Derived.Lib.ItoaLen
import Derived.Test.YtjhndilflcigiaaDoorTie
import Derived.Lib.LaidTab
import Derived.LaidMore
import Derived.Stop.LaidErr
import Derived.SevenTiedAt
import Derived.Test.YtjhndilflcigiaaDoorCards
import Derived.Deep.CutBlock
import Derived.Deep.DeepCutAuto
import Derived.Laws.Tables
import Derived.Laws.Rows
import Derived.Shelf.Spec.TrailingZeros
import Derived.RangeFuncNested
import Derived.RangeFuncBound
import Derived.RangeFuncCalls
import Derived.RangeFuncLeaves
import Derived.Shelf.Abstract
import Derived.Shelf.RegionOpen
import Derived.OwnWalkIn
import Derived.TacticsInMore
import Derived.LoopNIn
import Derived.LoopIn
import Derived.ChangeKeysEq
import Derived.Laws.StructEq
import Derived.Laws.CopyOwn
import Derived.Outline
import Derived.IntWalk
import Derived.Lib.EndianBits
import Derived.StillTail
namespace Go.Proofs.YtjhndilflcigiaaDoor
open Go.RowKit

/-- A token whose cursor is behind all. -/
def Tok.whole (t : Tok) : Bool := t.ok && decide (t.cursor = 1073741824)
/-- The texts of a token's parts. -/
def tkL (t : Tok) : List (List UInt8) := [Lib.itoa t.dev, Lib.itoa t.epoch, Lib.itoa t.seq, Lib.itoa t.cursor]
def tkW (t : Tok) : List (List UInt8) := [Lib.itoa t.dev, Lib.itoa t.epoch, Lib.itoa t.seq, [97, 108, 108]]
def tokT (t : Tok) : List UInt8 := if t.ok then Lib.join (if t.cursor = 1073741824 then tkW t else tkL t) [46] else []
theorem tokT_bad {t : Tok} (h : t.ok = false) : tokT t = [] := by unfold tokT; rw [h]; rfl
theorem tokT_whole {t : Tok} (h : t.ok = true) (hc : t.whole = true) : tokT t = Lib.join (tkW t) [46] := by
  unfold Tok.whole at hc; rw [h] at hc; unfold tokT; rw [if_pos h, if_pos (by simpa using hc)]
theorem tokT_part {t : Tok} (h : t.ok = true) (hc : t.whole = false) : tokT t = Lib.join (tkL t) [46] := by
  unfold Tok.whole at hc; rw [h] at hc; unfold tokT; rw [if_pos h, if_neg (by simpa using hc)]
set_option maxHeartbeats 1000000 in
theorem c_token_Whole (t : Tok) (w : World) : Calls Tryd.prog 114 #[.agg t.arr] w (RetV w (.bool t.whole)) := by
  have B0 := Lib.hid (At.new w 47 t.arr)
  have HC := Lib.hid (show ∀ w', Calls Tryd.prog 111 #[.agg t.arr] w' (RetV w' (.bool t.ok)) from c_token_Check t)
  have HW : Hid (t.whole = (t.ok && decide (t.cursor = 1073741824))) := rfl
  obtain ⟨q0, q1, q2, q3⟩ := tok_cells B0.out.2
  cases hok : t.ok
  all_goals
    replace HC := Lib.hid (by have := HC.out; rw [hok] at this; exact this)
    replace HW := Lib.hid (by have := HW.out; rw [hok] at this; exact this)
    clear hok
    go_enter Tryd.func114, Tryd.ntmps114
    go_wp2_with (fail)
    refine (HC.out _).mono ?_
    rintro e w1 ⟨rfl, hb1⟩
    replace B0 := Lib.hid (B0.out.step hb1)
    clear q0 q1 q2 q3 hb1
    obtain ⟨q0, q1, q2, q3⟩ := tok_cells B0.out.2
    go_wp2_with (fail)
    go_ret
    exact RetV.bool (by rw [HW.out]; first | rfl | (simp; done) | (rw [Bool.true_and, Bool.eq_iff_iff]; simp)) B0.out.1
theorem At.up {w w1 w2 : World} {cs : Array Value} (h : At w w1 cs) (hb : Below (w.heap.size + 1) w1 w2) : At w w2 cs := ⟨h.1.trans (hb.mono (by omega)), h.2.below hb (by omega)⟩
theorem In.own3' {α : Type} {k : Nat} {cs : α → List Value} {w : World} {base : Nat} {e : TypeId} {A : Option Addr} {c : Nat} {l : List α} (hk : ∀ x, (cs x).length = k) (h : w.ownsRow base e k (.slice A l.length c) l.length (l.flatMap cs)) (hs : l.length ≤ 4294967296) : In k cs w A c l := by
  obtain ⟨A', c', hv, hin⟩ := In.of_own hk h hs
  injection hv with e1 _ e2
  subst e1 e2
  exact hin
theorem itoa_len (n : Int) (h0 : -9223372036854775808 ≤ n) (h1 : n ≤ 9223372036854775807) : (Lib.itoa n).length ≤ 21 := by
  have := Lib.itoa_length_le n h0 h1
  omega
/-- The first k of a token's texts. -/
def preT (t : Tok) (k : Nat) : List (List UInt8) := (tkL t).take k
set_option maxHeartbeats 1000000 in
theorem token_Show_bad (t : Tok) (w : World) (hok : t.ok = false) : Calls Tryd.prog 47 #[.agg t.arr] w (RetV w (.string (str []))) := by
  have B0 := Lib.hid (At.new w 47 t.arr)
  have HC := Lib.hid (show ∀ w', Calls Tryd.prog 111 #[.agg t.arr] w' (RetV w' (.bool false)) from fun w' => by have := c_token_Check t w'; rw [hok] at this; exact this)
  clear hok
  go_enter Tryd.func47, Tryd.ntmps47
  obtain ⟨q0, q1, q2, q3⟩ := tok_cells B0.out.2
  go_wp2_with (fail)
  refine (HC.out _).mono ?_
  rintro e w1 ⟨rfl, hb1⟩
  go_wp2_with (fail)
  go_ret
  exact RetV.of rfl (B0.out.1.trans (hb1.mono B0.out.1.size))
set_option maxHeartbeats 4000000 in
set_option maxRecDepth 4000 in
theorem token_Show_ok (t : Tok) (w : World) (hok : t.ok = true) (hP : PowTab w) : Calls Tryd.prog 47 #[.agg t.arr] w (RetV w (.string (str (tokT t)))) := by
  have B0 := Lib.hid (At.new w 47 t.arr)
  have HC := Lib.hid (show ∀ w', Calls Tryd.prog 111 #[.agg t.arr] w' (RetV w' (.bool true)) from fun w' => by have := c_token_Check t w'; rw [hok] at this; exact this)
  have HP := Lib.hid hP
  have Hok := Lib.hid hok
  obtain ⟨b0, b1, b2, b3, b4, b5, b6, b7⟩ := Tok.ok_iff.1 hok
  have i0 := itoa_len t.dev (by omega) (by omega)
  have i1 := itoa_len t.epoch (by omega) (by omega)
  have i2 := itoa_len t.seq (by omega) (by omega)
  have i3 := itoa_len t.cursor (by omega) (by omega)
  have T0 := Lib.hid (fun (w' : World) (h : Below w.heap.size w w') => c_bits_Tens t.dev w' (by omega) (by omega) (HP.out.below h))
  have T1 := Lib.hid (fun (w' : World) (h : Below w.heap.size w w') => c_bits_Tens t.epoch w' (by omega) (by omega) (HP.out.below h))
  have T2 := Lib.hid (fun (w' : World) (h : Below w.heap.size w w') => c_bits_Tens t.seq w' (by omega) (by omega) (HP.out.below h))
  have T3 := Lib.hid (fun (w' : World) (h : Below w.heap.size w w') => c_bits_Tens t.cursor w' (by omega) (by omega) (HP.out.below h))
  have ix0 : ∀ w, (Instr.index 86 (.agg t.arr) (.int .i64 0)).run Tryd.prog w = .ok (.int .i64 t.dev) w := fun _ => by kernel_rfl
  have ix1 : ∀ w, (Instr.index 86 (.agg t.arr) (.int .i64 1)).run Tryd.prog w = .ok (.int .i64 t.epoch) w := fun _ => by kernel_rfl
  have ix2 : ∀ w, (Instr.index 86 (.agg t.arr) (.int .i64 2)).run Tryd.prog w = .ok (.int .i64 t.seq) w := fun _ => by kernel_rfl
  have ix3 : ∀ w, (Instr.index 86 (.agg t.arr) (.int .i64 3)).run Tryd.prog w = .ok (.int .i64 t.cursor) w := fun _ => by kernel_rfl
  have HL := Lib.hid (show (Lib.join (tkL t) [46]).length ≤ 100 ∧ (Lib.join (tkW t) [46]).length ≤ 100 by
    unfold tkL tkW
    simp [Lib.join]
    omega)
  clear hok hP b0 b1 b2 b3 b4 b5 b6 b7 i0 i1 i2 i3
  go_enter Tryd.func47, Tryd.ntmps47
  obtain ⟨q0, q1, q2, q3⟩ := tok_cells B0.out.2
  go_wp2_with (fail)
  refine (HC.out _).mono ?_
  rintro e w1 ⟨rfl, hb1⟩
  replace B0 := Lib.hid (B0.out.step hb1)
  clear hb1 HC
  clear q0 q1 q2 q3
  obtain ⟨q0, q1, q2, q3⟩ := tok_cells B0.out.2
  go_wp2_with (fail)
  refine (c_token_parts t _).mono ?_
  rintro e w2 ⟨rfl, hb2⟩
  replace B0 := Lib.hid (B0.out.step hb2)
  clear hb2 q0 q1 q2 q3
  go_wp2_with (fail)
  go_loopw [3, 11] (fun v i wr => ∃ k : Nat, k ≤ 4 ∧ i = .int .i64 k ∧ Hid (wr.ownsRow (w.heap.size + 1) 9 1 v k ((preT t k).flatMap sc)) ∧ Hid (At w wr t.arr))
    (fun _ i _ => 4 - (intOf i).toNat)
  case atStart => exact ⟨0, by omega, rfl, World.ownsRow_nil _ _ _ _, B0.out⟩
  case round =>
    obtain ⟨k, hk, rfl, O, B1⟩ := hrel
    clear B0
    have hcs : k = 0 ∨ k = 1 ∨ k = 2 ∨ k = 3 ∨ k = 4 := by omega
    clear hk
    rcases hcs with rfl | rfl | rfl | rfl | rfl
    · go_wp2_with (fail)
      refine (T0.out _ B1.out.1).mono ?_
      rintro e w3 ⟨rfl, hb3⟩
      replace B1 := Lib.hid (B1.out.step hb3)
      have O3 := Lib.hid (own_below O.out hb3)
      clear hb3 O
      obtain ⟨x, hx⟩ : ∃ x, x = Lib.itoa t.dev := ⟨_, rfl⟩
      rw [← hx]
      have HX := Lib.hid hx
      clear hx
      go_wp2_with ((at_builtin; refine Stop.out ?_))
      have hz := B1.out.1.size
      refine Stop.mk (wpList_app _ rfl _ _ elemS rfl (w.heap.size + 1) _ 0 _ rfl (own_below O3.out ((Below.refl _ _).alloc (Nat.le_refl _) _)) _ 1 1 (sc x) rfl (Src.new _ (sc x) _ 1 rfl) (by simp [sc, Value.oneCell']) (by omega) (by have := B1.out.2.lt; simp; omega) ?_)
      intro v4 w4 own4 _ hb4 _
      have B4 := Lib.hid ((B1.out.alloc _).up hb4)
      go_wp2_with (fail)
      go_roundw
      case rel => exact ⟨1, by omega, rfl, by have := own4; rw [HX.out] at this; exact this, B4.out⟩
      case measure => simp [intOf]
    · go_wp2_with (fail)
      refine (T1.out _ B1.out.1).mono ?_
      rintro e w3 ⟨rfl, hb3⟩
      replace B1 := Lib.hid (B1.out.step hb3)
      have O3 := Lib.hid (own_below O.out hb3)
      clear hb3 O
      obtain ⟨x, hx⟩ : ∃ x, x = Lib.itoa t.epoch := ⟨_, rfl⟩
      rw [← hx]
      have HX := Lib.hid hx
      clear hx
      go_wp2_with ((at_builtin; refine Stop.out ?_))
      have hz := B1.out.1.size
      refine Stop.mk (wpList_app _ rfl _ _ elemS rfl (w.heap.size + 1) _ 1 _ rfl (own_below O3.out ((Below.refl _ _).alloc (Nat.le_refl _) _)) _ 1 1 (sc x) rfl (Src.new _ (sc x) _ 1 rfl) (by simp [sc, Value.oneCell']) (by omega) (by have := B1.out.2.lt; simp; omega) ?_)
      intro v4 w4 own4 _ hb4 _
      have B4 := Lib.hid ((B1.out.alloc _).up hb4)
      go_wp2_with (fail)
      go_roundw
      case rel => exact ⟨2, by omega, rfl, by have := own4; rw [HX.out] at this; exact this, B4.out⟩
      case measure => simp [intOf]
    · go_wp2_with (fail)
      refine (T2.out _ B1.out.1).mono ?_
      rintro e w3 ⟨rfl, hb3⟩
      replace B1 := Lib.hid (B1.out.step hb3)
      have O3 := Lib.hid (own_below O.out hb3)
      clear hb3 O
      obtain ⟨x, hx⟩ : ∃ x, x = Lib.itoa t.seq := ⟨_, rfl⟩
      rw [← hx]
      have HX := Lib.hid hx
      clear hx
      go_wp2_with ((at_builtin; refine Stop.out ?_))
      have hz := B1.out.1.size
      refine Stop.mk (wpList_app _ rfl _ _ elemS rfl (w.heap.size + 1) _ 2 _ rfl (own_below O3.out ((Below.refl _ _).alloc (Nat.le_refl _) _)) _ 1 1 (sc x) rfl (Src.new _ (sc x) _ 1 rfl) (by simp [sc, Value.oneCell']) (by omega) (by have := B1.out.2.lt; simp; omega) ?_)
      intro v4 w4 own4 _ hb4 _
      have B4 := Lib.hid ((B1.out.alloc _).up hb4)
      go_wp2_with (fail)
      go_roundw
      case rel => exact ⟨3, by omega, rfl, by have := own4; rw [HX.out] at this; exact this, B4.out⟩
      case measure => simp [intOf]
    · go_wp2_with (fail)
      refine (T3.out _ B1.out.1).mono ?_
      rintro e w3 ⟨rfl, hb3⟩
      replace B1 := Lib.hid (B1.out.step hb3)
      have O3 := Lib.hid (own_below O.out hb3)
      clear hb3 O
      obtain ⟨x, hx⟩ : ∃ x, x = Lib.itoa t.cursor := ⟨_, rfl⟩
      rw [← hx]
      have HX := Lib.hid hx
      clear hx
      go_wp2_with ((at_builtin; refine Stop.out ?_))
      have hz := B1.out.1.size
      refine Stop.mk (wpList_app _ rfl _ _ elemS rfl (w.heap.size + 1) _ 3 _ rfl (own_below O3.out ((Below.refl _ _).alloc (Nat.le_refl _) _)) _ 1 1 (sc x) rfl (Src.new _ (sc x) _ 1 rfl) (by simp [sc, Value.oneCell']) (by omega) (by have := B1.out.2.lt; simp; omega) ?_)
      intro v4 w4 own4 _ hb4 _
      have B4 := Lib.hid ((B1.out.alloc _).up hb4)
      go_wp2_with (fail)
      go_roundw
      case rel => exact ⟨4, by omega, rfl, by have := own4; rw [HX.out] at this; exact this, B4.out⟩
      case measure => simp [intOf]
    · obtain ⟨g, c, rfl, h4, hc, hg, hgl⟩ := own_form' O.out (by omega)
      obtain ⟨q0, q1, q2, q3⟩ := tok_cells B1.out.2
      have HO := Lib.hid Hok.out
      cases hwh : t.whole
      · have HR := Lib.hid (tokT_part Hok.out hwh)
        have HWh := Lib.hid (show ∀ w', Calls Tryd.prog 114 #[.agg t.arr] w' (RetV w' (.bool false)) from fun w' => by have := c_token_Whole t w'; rw [hwh] at this; exact this)
        clear hwh
        go_wp2_with (fail)
        refine (HWh.out _).mono ?_
        rintro e w5 ⟨rfl, hb5⟩
        replace B1 := Lib.hid (B1.out.step hb5)
        have hin := In.own3' (l := tkL t) sc_len (own_below O.out hb5) (by simp [tkL])
        clear q0 q1 q2 q3 hb5
        go_wp2_with (fail)
        refine (c_Join (tkL t) _ c [46] _ hin (by have := HL.out.1; omega) (by simp [tkL])).mono ?_
        rintro e w6 ⟨rfl, hb6⟩
        go_wp2_with (fail)
        go_ret
        exact RetV.of (by rw [HR.out]; rfl) (B1.out.1.trans (hb6.mono B1.out.1.size))
      · have HR := Lib.hid (tokT_whole Hok.out hwh)
        have HWh := Lib.hid (show ∀ w', Calls Tryd.prog 114 #[.agg t.arr] w' (RetV w' (.bool true)) from fun w' => by have := c_token_Whole t w'; rw [hwh] at this; exact this)
        clear hwh
        go_wp2_with (fail)
        refine (HWh.out _).mono ?_
        rintro e w5 ⟨rfl, hb5⟩
        have O5 := Lib.hid (own_below O.out hb5)
        replace B1 := Lib.hid (B1.out.step hb5)
        have hg5 := Nat.lt_of_lt_of_le hgl hb5.size
        have fz := O5.out.frozenAt 3
        have c3 := O5.out.cells (g := g) rfl 3 (.string (str (Lib.itoa t.cursor))) rfl
        rw [add_lit] at c3
        obtain ⟨O6, -⟩ := O5.out.stored 3 (.string (str [97, 108, 108]))
        have B6 := Lib.hid (B1.out.up ((Below.refl _ _).setCell (p := ⟨g, 3, none⟩) (by simpa using hg) (.string (str [97, 108, 108]))))
        have hin := Lib.hid (In.own3' (l := tkW t) sc_len O6 (by simp [tkW]))
        clear q0 q1 q2 q3 hb5 O6 B1 O hgl
        go_wp2_with (fail)
        refine (c_Join (tkW t) _ c [46] _ hin.out (by have := HL.out.2; omega) (by simp [tkW])).mono ?_
        rintro e w6 ⟨rfl, hb6⟩
        go_wp2_with (fail)
        go_ret
        exact RetV.of (by rw [HR.out]; rfl) (B6.out.1.trans (hb6.mono B6.out.1.size))
theorem c_token_Show (t : Tok) (w : World) (hP : PowTab w) : Calls Tryd.prog 47 #[.agg t.arr] w (RetV w (.string (str (tokT t)))) := by
  cases h : t.ok
  · rw [tokT_bad h]; exact token_Show_bad t w h
  · exact token_Show_ok t w h hP
end Go.Proofs.YtjhndilflcigiaaDoor
namespace Go.Proofs.YtjhndilflcigiaaDoor
open Go.RowKit

section
variable {P : Program} {l : List Oper} {a : Act} {w : World}
/-- Behind a head of s operations that have been carried out, in whatever order. -/
theorem rel_tail {Q : Exit → Act → World → Prop} (S : List Sp) {N : Nat} (hB : relB l.toArray N = true) (ha : a.tmps.size = N) (hS : S.length = l.length) (s : Nat) (hs : s ≤ l.length) (u0 : Nat → Value)
    (hu : ∀ j o t, j < s → l[j]? = some o → o.dst = some t → a.tmps[t]? = some (u0 j) ∧ (S.getD j Sp.any).holds (u0 j) w)
    (hop : RelGoals P l.toArray S a w (l.drop s) s) (hend : ∀ u w1, Below w.heap.size w w1 → RelHold u w1 S 0 → Q .normal (putAll u l 0 a) w1) :
    wpAny P .any l.toArray Q (l.length - s) (Array.replicate s true ++ Array.replicate (l.length - s) false) a w := by
  have hg : ∀ j, (Array.replicate s true ++ Array.replicate (l.length - s) false).getD j false = decide (j < s) := by
    intro j
    rw [Array.getD_eq_getD_getElem?, Array.getElem?_append]
    by_cases h : j < s
    · simp [h]
    · simp [h]
      rw [Array.getElem?_replicate]
      split <;> rfl
  refine rel_any hB ha hS (Hop.of hop) hend _ _ a w (fun j hj => by rw [hg]; simpa using hj) (by simp; omega) (by simp [List.count_replicate]) ?_
  refine ⟨Below.refl _ _, rfl, rfl, ?_, fun _ _ => rfl, u0, ?_⟩
  · intro j o ho hl e he hb
    rw [hg] at hl ⊢
    have hj : j < s := by simpa using hl
    have := (relB_spec hB (i := j) (o := o) (by simpa using ho)).2.2.1 e he hb
    simp; omega
  · intro j o t ho hd hl
    rw [hg] at hl
    exact hu j o t (by simpa using hl) ho hd
theorem wp_move {o : Oper} {K : Act → World → Prop} {Q : Exit → Act → World → Prop} {x : Operand} (ho : o.op = .move x) (h : K (a.put o.dst (a.eval x)) w) : o.wp P a w K Q := by
  unfold Oper.wp execOp
  simp only [ho, Sem.run_pure]
  exact h
theorem wp_callf {o : Oper} {K : Act → World → Prop} {Q : Exit → Act → World → Prop} {f : FuncId} {fn : Func} {x : Operand} {ts : Array TypeId} (ho : o.op = .call { callee := .value (.func f), args := #[x], argTypes := ts })
    (hf : P.funcs[f]? = some fn) (hn : (fn.name == "runtime.NumGoroutine") = false) (hb : fn.body.isNone = false)
    (h : Calls P f #[a.eval x] w fun e w' => ∃ v, e = .returned v ∧ K (a.put o.dst v) w') : o.wp P a w K Q := by
  unfold Oper.wp execOp
  have hr : (callFunc f #[a.eval x]).run P w = .ok (.enter f #[a.eval x]) w := by
    have hn' : fn.name ≠ "runtime.NumGoroutine" := by simpa using hn
    have hb' : fn.body ≠ none := by intro h; rw [h] at hb; cases hb
    simp [callFunc, go_sem, hf, hn', hb']
  have hd : (Deferred.ofValue (a.eval (Operand.func f)) #[a.eval x]) = pure { target := .fn (.func f) #[], args := #[a.eval x] } := rfl
  simp only [ho, resolve, invoke, Sem.run_bind, List.map_toArray, List.map_cons, List.map_nil, hd, Sem.run_pure, Result.andThen_ok, Array.append_empty, hr]
  refine Calls.mono h fun e w' he => ?_
  obtain ⟨v, rfl, hk⟩ := he
  exact hk
theorem wpOp_plain {ops : Array Oper} {i : Nat} {o : Oper} {K : Act → World → Prop} {Q : Exit → Act → World → Prop} (ho : ops[i]? = some o) (hg : o.guard = none) (h : o.wp P a w K Q) : wpOp P ops Q i K a w := by
  unfold wpOp
  simp [ho, Region.wanted, hg]
  exact .inl h
theorem eval_put_ne {d : Tmp} {v : Value} {x : Operand} (h : x ≠ .tmp d) : (a.put (some d) v).eval x = a.eval x := by
  cases x with
  | tmp t =>
    have ht : d ≠ t := fun e => h (by rw [e])
    show (a.put (some d) v).tmps.getD t undef = a.tmps.getD t undef
    rw [Array.getD_eq_getD_getElem?, Array.getD_eq_getD_getElem?, put_get_ne a v (fun e => ht (by injection e))]
  | _ => rfl
theorem eval_put_eq {d : Tmp} {v : Value} (h : d < a.tmps.size) : (a.put (some d) v).eval (.tmp d) = v := by
  show (a.put (some d) v).tmps.getD d undef = v
  rw [Array.getD_eq_getD_getElem?, put_get_eq a v h]; rfl
theorem put_swap {d e : Tmp} {v u : Value} (h : d ≠ e) : (a.put (some d) v).put (some e) u = (a.put (some e) u).put (some d) v := by
  unfold Act.put
  simp only
  rw [Array.setIfInBounds_comm _ _ h]
/-- How the head's operations become ready. -/
def headB (ops : Array Oper) (n : Nat) : Bool :=
  let L := fun (a b c d : Bool) => (a :: b :: c :: d :: List.replicate n false).toArray
  (Region.ready .any ops (L false false false false) == [0, 2]) && (Region.ready .any ops (L true false false false) == [1, 2]) && (Region.ready .any ops (L false false true false) == [0]) &&
    (Region.ready .any ops (L true true false false) == [2]) && (Region.ready .any ops (L true false true false) == [1]) && (Region.ready .any ops (L true true true false) == [3])
/-- Two calls that write, one behind the other; then each operation by itself. -/
theorem wp_region_two {id : Nat} {Q : Exit → Act → World → Prop} {N : Nat} (hm : P.follows .mixedOrders = true) (hB : relB l.toArray N = true) (ha : a.tmps.size = N) (n : Nat) (hl : l.length = n + 4) (hH : headB l.toArray n = true)
    {f1 f2 : FuncId} {fn1 fn2 : Func} {x0 x2 : Operand} {d0 d1 d2 d3 : Tmp} {t1 t3 : Array TypeId} {o0 o1 o2 o3 : Oper} {r : List Oper} (hlr : l = o0 :: o1 :: o2 :: o3 :: r)
    (g0 : o0.guard = none ∧ o0.op = .move x0 ∧ o0.dst = some d0) (g1 : o1.guard = none ∧ o1.op = .call { callee := .value (.func f1), args := #[.tmp d0], argTypes := t1 } ∧ o1.dst = some d1)
    (g2 : o2.guard = none ∧ o2.op = .move x2 ∧ o2.dst = some d2) (g3 : o3.guard = none ∧ o3.op = .call { callee := .value (.func f2), args := #[.tmp d2], argTypes := t3 } ∧ o3.dst = some d3)
    (hf1 : P.funcs[f1]? = some fn1 ∧ (fn1.name == "runtime.NumGoroutine") = false ∧ fn1.body.isNone = false) (hf2 : P.funcs[f2]? = some fn2 ∧ (fn2.name == "runtime.NumGoroutine") = false ∧ fn2.body.isNone = false)
    (hx0 : x0 ≠ .tmp d2) (hx2 : x2 ≠ .tmp d0 ∧ x2 ≠ .tmp d1) (hd : d0 ≠ d1 ∧ d0 ≠ d2 ∧ d0 ≠ d3 ∧ d1 ≠ d2 ∧ d1 ≠ d3 ∧ d2 ≠ d3) (hdN : d0 < N ∧ d1 < N ∧ d2 < N ∧ d3 < N)
    (h : Calls P f1 #[a.eval x0] w.drew fun e w1 => ∃ v1, e = .returned v1 ∧ Calls P f2 #[a.eval x2] w1 fun e w2 => ∃ v2, e = .returned v2 ∧
      ∃ S' : List Sp, S'.length = n ∧ RelGoals P l.toArray (Sp.eq (a.eval x0) :: Sp.eq v1 :: Sp.eq (a.eval x2) :: Sp.eq v2 :: S') ((((a.put (some d0) (a.eval x0)).put (some d1) v1).put (some d2) (a.eval x2)).put (some d3) v2) w2 r 4 ∧
        ∀ u w3, Below w2.heap.size w2 w3 → RelHold u w3 (Sp.eq (a.eval x0) :: Sp.eq v1 :: Sp.eq (a.eval x2) :: Sp.eq v2 :: S') 0 →
          Q .normal (putAll u l 0 ((((a.put (some d0) (a.eval x0)).put (some d1) v1).put (some d2) (a.eval x2)).put (some d3) v2)) w3) :
    (Code.region id l.toArray true).wp P Q a w := by
  unfold headB at hH
  simp only [Bool.and_eq_true, beq_iff_eq] at hH
  obtain ⟨⟨⟨⟨⟨r0, r1⟩, r2⟩, r3⟩, r4⟩, r5⟩ := hH
  obtain ⟨gd0, op0, dst0⟩ := g0
  obtain ⟨gd1, op1, dst1⟩ := g1
  obtain ⟨gd2, op2, dst2⟩ := g2
  obtain ⟨gd3, op3, dst3⟩ := g3
  obtain ⟨n01, n02, n03, n12, n13, n23⟩ := hd
  obtain ⟨l0, l1, l2, l3⟩ := hdN
  have at0 : l.toArray[0]? = some o0 := by rw [hlr]; rfl
  have at1 : l.toArray[1]? = some o1 := by rw [hlr]; rfl
  have at2 : l.toArray[2]? = some o2 := by rw [hlr]; rfl
  have at3 : l.toArray[3]? = some o3 := by rw [hlr]; rfl
  refine wp_region_any hm ?_
  have e0 : Array.replicate l.toArray.size false = (false :: false :: false :: false :: List.replicate n false).toArray := by
    rw [List.size_toArray, hl]; rfl
  rw [e0, List.size_toArray, hl]
  -- the last call, and what is left
  have last : ∀ (v1 : Value) (w1 : World), (Calls P f2 #[a.eval x2] w1 fun e w2 => ∃ v2, e = .returned v2 ∧
      ∃ S' : List Sp, S'.length = n ∧ RelGoals P l.toArray (Sp.eq (a.eval x0) :: Sp.eq v1 :: Sp.eq (a.eval x2) :: Sp.eq v2 :: S') ((((a.put (some d0) (a.eval x0)).put (some d1) v1).put (some d2) (a.eval x2)).put (some d3) v2) w2 r 4 ∧
        ∀ u w3, Below w2.heap.size w2 w3 → RelHold u w3 (Sp.eq (a.eval x0) :: Sp.eq v1 :: Sp.eq (a.eval x2) :: Sp.eq v2 :: S') 0 →
          Q .normal (putAll u l 0 ((((a.put (some d0) (a.eval x0)).put (some d1) v1).put (some d2) (a.eval x2)).put (some d3) v2)) w3) →
      wpAny P .any l.toArray Q (n + 1) (true :: true :: true :: false :: List.replicate n false).toArray (((a.put (some d0) (a.eval x0)).put (some d1) v1).put (some d2) (a.eval x2)) w1 := by
    intro v1 w1 hc
    refine ⟨(fun h0 => by rw [r5] at h0; cases h0), fun i hi => ?_⟩
    rw [r5] at hi
    obtain rfl : i = 3 := by simpa using hi
    refine wpOp_plain at3 gd3 (wp_callf op3 hf2.1 hf2.2.1 hf2.2.2 ?_)
    rw [eval_put_eq (by rw [put_size, put_size, ha]; exact l2)]
    refine hc.mono ?_
    rintro e w2 ⟨v2, rfl, S', hS', hg, hend⟩
    refine ⟨v2, rfl, ?_⟩
    rw [dst3]
    have hsz : ((((a.put (some d0) (a.eval x0)).put (some d1) v1).put (some d2) (a.eval x2)).put (some d3) v2).tmps.size = N := by rw [put_size, put_size, put_size, put_size, ha]
    have key := rel_tail (P := P) (l := l) (Q := Q) (w := w2) (a := ((((a.put (some d0) (a.eval x0)).put (some d1) v1).put (some d2) (a.eval x2)).put (some d3) v2))
      (Sp.eq (a.eval x0) :: Sp.eq v1 :: Sp.eq (a.eval x2) :: Sp.eq v2 :: S') hB hsz (by simp [hS', hl]) 4 (by omega) (fun j => [a.eval x0, v1, a.eval x2, v2].getD j undef) ?_ (by rw [hlr]; rw [hlr] at hg; exact hg) hend
    · have e1 : l.length - 4 = n := by omega
      rw [e1] at key
      have e2 : ((true :: true :: true :: false :: List.replicate n false).toArray).setIfInBounds 3 true = Array.replicate 4 true ++ Array.replicate n false := by
        rw [List.setIfInBounds_toArray]
        simp only [List.set_cons_zero, List.set_cons_succ]
        apply Array.ext'
        simp [List.replicate]
      rw [e2]
      exact key
    · intro j o t hj ho hdj
      have hj4 : j = 0 ∨ j = 1 ∨ j = 2 ∨ j = 3 := by omega
      rw [hlr] at ho
      rcases hj4 with rfl | rfl | rfl | rfl
      · have hoe : o = o0 := by simpa using ho.symm
        rw [hoe, dst0] at hdj
        have hte : t = d0 := by injection hdj with hdj; exact hdj.symm
        rw [hte]
        refine ⟨?_, by simp only [List.getD_cons_zero, Sp.eq_holds]⟩
        simp only [List.getD_cons_zero]
        rw [put_get_ne _ _ (by simpa using Ne.symm n03), put_get_ne _ _ (by simpa using Ne.symm n02), put_get_ne _ _ (by simpa using Ne.symm n01)]
        exact put_get_eq _ _ (by rw [ha]; exact l0)
      · have hoe : o = o1 := by simpa using ho.symm
        rw [hoe, dst1] at hdj
        have hte : t = d1 := by injection hdj with hdj; exact hdj.symm
        rw [hte]
        refine ⟨?_, by simp only [List.getD_cons_zero, List.getD_cons_succ, Sp.eq_holds]⟩
        simp only [List.getD_cons_zero, List.getD_cons_succ]
        rw [put_get_ne _ _ (by simpa using Ne.symm n13), put_get_ne _ _ (by simpa using Ne.symm n12)]
        exact put_get_eq _ _ (by rw [put_size, ha]; exact l1)
      · have hoe : o = o2 := by simpa using ho.symm
        rw [hoe, dst2] at hdj
        have hte : t = d2 := by injection hdj with hdj; exact hdj.symm
        rw [hte]
        refine ⟨?_, by simp only [List.getD_cons_zero, List.getD_cons_succ, Sp.eq_holds]⟩
        simp only [List.getD_cons_zero, List.getD_cons_succ]
        rw [put_get_ne _ _ (by simpa using Ne.symm n23)]
        exact put_get_eq _ _ (by rw [put_size, put_size, ha]; exact l2)
      · have hoe : o = o3 := by simpa using ho.symm
        rw [hoe, dst3] at hdj
        have hte : t = d3 := by injection hdj with hdj; exact hdj.symm
        rw [hte]
        refine ⟨?_, by simp only [List.getD_cons_zero, List.getD_cons_succ, Sp.eq_holds]⟩
        simp only [List.getD_cons_zero, List.getD_cons_succ]
        exact put_get_eq _ _ (by rw [put_size, put_size, put_size, ha]; exact l3)
  -- the first call, the second move already made
  have mid : wpAny P .any l.toArray Q (n + 2) (true :: false :: true :: false :: List.replicate n false).toArray ((a.put (some d0) (a.eval x0)).put (some d2) (a.eval x2)) w.drew := by
    refine ⟨(fun h0 => by rw [r4] at h0; cases h0), fun i hi => ?_⟩
    rw [r4] at hi
    obtain rfl : i = 1 := by simpa using hi
    refine wpOp_plain at1 gd1 (wp_callf op1 hf1.1 hf1.2.1 hf1.2.2 ?_)
    rw [eval_put_ne (by simpa using n02), eval_put_eq (by rw [ha]; exact l0)]
    refine h.mono ?_
    rintro e w1 ⟨v1, rfl, hc⟩
    refine ⟨v1, rfl, ?_⟩
    rw [dst1, List.setIfInBounds_toArray]
    simp only [List.set_cons_zero, List.set_cons_succ]
    rw [← put_swap n12]
    exact last v1 w1 hc
  refine ⟨(fun h0 => by rw [r0] at h0; cases h0), fun i hi => ?_⟩
  rw [r0] at hi
  have hi' : i = 0 ∨ i = 2 := by simpa using hi
  rcases hi' with rfl | rfl
  · refine wpOp_plain at0 gd0 (wp_move op0 ?_)
    rw [dst0, List.setIfInBounds_toArray]
    simp only [List.set_cons_zero]
    refine ⟨(fun h0 => by rw [r1] at h0; cases h0), fun i hi => ?_⟩
    rw [r1] at hi
    have hi' : i = 1 ∨ i = 2 := by simpa using hi
    rcases hi' with rfl | rfl
    · refine wpOp_plain at1 gd1 (wp_callf op1 hf1.1 hf1.2.1 hf1.2.2 ?_)
      rw [eval_put_eq (by rw [ha]; exact l0)]
      refine h.mono ?_
      rintro e w1 ⟨v1, rfl, hc⟩
      refine ⟨v1, rfl, ?_⟩
      rw [dst1, List.setIfInBounds_toArray]
      simp only [List.set_cons_zero, List.set_cons_succ]
      refine ⟨(fun h0 => by rw [r3] at h0; cases h0), fun i hi => ?_⟩
      rw [r3] at hi
      obtain rfl : i = 2 := by simpa using hi
      refine wpOp_plain at2 gd2 (wp_move op2 ?_)
      rw [dst2, List.setIfInBounds_toArray, eval_put_ne hx2.2, eval_put_ne hx2.1]
      simp only [List.set_cons_zero, List.set_cons_succ]
      exact last v1 w1 hc
    · refine wpOp_plain at2 gd2 (wp_move op2 ?_)
      rw [dst2, List.setIfInBounds_toArray, eval_put_ne hx2.1]
      simp only [List.set_cons_zero, List.set_cons_succ]
      exact mid
  · refine wpOp_plain at2 gd2 (wp_move op2 ?_)
    rw [dst2, List.setIfInBounds_toArray]
    simp only [List.set_cons_zero, List.set_cons_succ]
    refine ⟨(fun h0 => by rw [r2] at h0; cases h0), fun i hi => ?_⟩
    rw [r2] at hi
    obtain rfl : i = 0 := by simpa using hi
    refine wpOp_plain at0 gd0 (wp_move op0 ?_)
    rw [dst0, List.setIfInBounds_toArray, eval_put_ne hx0, put_swap (Ne.symm n02)]
    simp only [List.set_cons_zero]
    exact mid
end
end Go.Proofs.YtjhndilflcigiaaDoor
namespace Go.Proofs.YtjhndilflcigiaaDoor
open Go.RowKit

theorem relgoals_genN {P : Program} {ops : Array Oper} {S : List Sp} {a : Act} {w : World} {r : List Oper} {s : Nat} (h : ∀ fr, fr = a → RelGoals P ops S fr w r s) : RelGoals P ops S a w r s := h a rfl
theorem RdR.eN {w : World} {h : Nat} {st : Rd} (r : RdR w h st) : w.cell? ⟨h, 1, none⟩ = some (.int .i64 st.e) := r.1.cell rfl
theorem RdR.sN {w : World} {h : Nat} {st : Rd} (r : RdR w h st) : w.cell? ⟨h, 0, none⟩ = some (.string (str st.s)) := r.1.cell rfl
/-- The two readers; g ahead of h; nothing below the call's own has turned. -/
structure RW (w w' : World) (g h : Nat) (s1 s2 : Rd) : Prop where
  below : Below w.heap.size w w'
  rp : RdP w' (some g) s1
  rr : RdR w' h s2
  og : w.heap.size ≤ g
  gh : g < h
section
variable {w w' w2 : World} {g h : Nat} {s1 s2 s3 : Rd}
theorem RW.step (L : RW w w' g h s1 s2) (hb : Below w'.heap.size w' w2) : RW w w2 g h s1 s2 := ⟨L.below.trans (hb.mono L.below.size), L.rp.below hb, L.rr.below hb, L.og, L.gh⟩
theorem RW.hi (L : RW w w' g h s1 s2) : h < w'.heap.size := L.rr.lt
theorem RW.readP (L : RW w w' g h s1 s2) (r : RdP w2 (some g) s3) (k : Kept (some g) w'.heap.size w' w2) : RW w w2 g h s3 s2 :=
  ⟨L.below.trans (k.oneB L.below.size L.og), r, L.rr.kept k (fun e => by injection e with e; have := L.gh; omega), L.og, L.gh⟩
theorem RW.readR (L : RW w w' g h s1 s2) (r : RdR w2 h s3) (k : Kept (some h) w'.heap.size w' w2) : RW w w2 g h s1 s3 :=
  ⟨L.below.trans (k.oneB L.below.size (by have := L.og; have := L.gh; omega)), L.rp.kept k (fun x y e1 e2 => by injection e1 with e1; injection e2 with e2; have := L.gh; omega), r, L.og, L.gh⟩
end
end Go.Proofs.YtjhndilflcigiaaDoor
