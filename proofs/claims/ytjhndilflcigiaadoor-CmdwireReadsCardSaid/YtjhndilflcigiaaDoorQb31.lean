/-
  Lemmas (walks and plain laws), in one text.
-/
import Derived.Test.YtjhndilflcigiaaDoorQb30
import Derived.Test.YtjhndilflcigiaaDoorRows
import Derived.WalkKit
import Derived.WalkSpells
import Derived.WalkLawsBesides
import Derived.Lib.Hide
import Derived.Deep.QuietTactic
import Derived.BigQuiet
import Derived.Maps.AppendAt
import Derived.WalkSmall
import Derived.ProofKit
import Derived.OpenShut
import Derived.JoinedCond
import Derived.Deep.Slices
import Derived.Deep.Fields
import Derived.Carry
import Derived.Deep.AppendSrc
import Derived.Lib.AppendStr
import Derived.Laws.BytesArg
import Derived.Test.YtjhndilflcigiaaDoorProg
import Derived.Shelf.Spec.TrailingZeros
import Derived.RangeFuncNested
import Derived.RangeFuncBound
import Derived.RangeFuncCalls
import Derived.RangeFuncLeaves
import Derived.Shelf.Abstract
import Derived.Shelf.RegionOpen
import Derived.OwnWalkIn
import Derived.TacticsInMore
import Derived.LoopNIn
import Derived.LoopIn
import Derived.Test.YtjhndilflcigiaaDoorTie
import Derived.Lib.LaidTab
import Derived.LaidMore
import Derived.SevenTiedAt
import Derived.Test.YtjhndilflcigiaaDoorCards
import Derived.Laws.Tables
import Derived.Laws.Rows
import Derived.Maps.Own
import Derived.Deep.CutBlock
import Derived.Deep.DeepCutAuto
import Derived.ChangeKeysEq
import Derived.Laws.StructEq
import Derived.Laws.CopyOwn
import Derived.Outline
import Derived.IntWalk
import Derived.Lib.EndianBits
import Derived.Lib.AppendZeros
import Derived.WalkMore
import Derived.StillTail
import Derived.Deep.Quiet
namespace Go.Proofs.YtjhndilflcigiaaDoor
open Go.RowKit

theorem splice_all {l : List UInt8} {cur : List Value} (hc : cur.length = l.length) : splice cur 0 (l.flatMap bc) = l.flatMap bc := by
  have hl := flat_length bc_len l
  unfold splice
  rw [List.take_zero, List.nil_append, List.drop_of_length_le (by omega), List.append_nil]
theorem Row.of_heap {w : World} {b : Nat} {t : TypeId} {l : List UInt8} (h : w.heap[b]? = some (.cells (l.flatMap bc).toArray t (0, 0))) : Row 1 bc w b 0 l := by
  intro i hi j u hu
  have hj : j < 1 := (List.getElem?_eq_some_iff.1 hu).1
  have h0 : j = 0 := by omega
  subst h0
  have := flat_get bc_len l i hi 0 (by omega)
  rw [cell_of_row w b _ _ _ _ h, List.getElem?_toArray, Nat.zero_add, this]
  exact hu
/-- The walk stands still at a copy. -/
theorem stop_copy {P : Program} {w : World} {ops : Array Oper} {rest : List Oper} {o : Oper} {a : Act} {Q : Exit → Act → World → Prop} (d s : Operand) (dT sT : TypeId)
    (_ : o.op = .call { callee := .builtin .copy, args := #[d, s], argTypes := #[dT, sT] }) (h : Stop (wpList P ops Q (o :: rest) a w)) : wpList P ops Q (o :: rest) a w := h
set_option maxHeartbeats 400000 in
set_option maxRecDepth 4000 in
theorem c_octet_New (l : List UInt8) (A : Option Addr) (c : Nat) (w : World) (h : InB w A c l) : Calls Tryd.prog 16 #[.slice A l.length c] w (RetNew w l) := by
  have hL := h.1
  have hC := h.2.1
  have hS := h.2.2.1
  obtain ⟨i, z, hi, hz0, hz1, hz2, hz3⟩ := elemB.info
  have H := Lib.hid h
  clear h
  go_enter Tryd.func16, Tryd.ntmps16
  go_wp2_with (at_make; refine Stop.out ?_)
  refine Stop.mk (wpList_make_full _ rfl (.tmp 5) (.tmp 5) 33 rfl w.heap.size 5 i z 1 Tryd.underlying33 hi hz0 hz1 _ _ _ _ l.length rfl rfl rfl rfl (by rw [hz2]; omega) (by unfold maxLen; omega) (Nat.le_refl _) ?_)
  intro w1 own1 g1
  have hb1 : Below w.heap.size w w1 := grown_below g1 (Nat.le_refl _) (fun k hk => by cases hk)
  obtain ⟨cur, hcur, hcl⟩ : ∃ cur : List Value, w1.heap[w.heap.size]? = some (.cells cur.toArray 5 (0, 0)) ∧ cur.length = l.length := by
    rcases own1.2 with ⟨hv, _⟩ | ⟨g, cap, cur, hv, _, hh, _, _, hs, _⟩
    · cases hv
    · injection hv with e1 e2 e3
      injection e1 with e1
      injection e1 with e1
      subst e1 e3
      exact ⟨cur.toList, hh, by simpa using hs⟩
  have Hcur := Lib.hid hcur
  have Hcl := Lib.hid hcl
  have Own1 := Lib.hid own1
  have hz1' := hb1.size
  clear hcur hcl own1 g1
  have hwz : w.heap.size < w1.heap.size := by
    have h1 := Hcur.out
    rcases Nat.lt_or_ge w.heap.size w1.heap.size with hlt | hge
    · exact hlt
    · rw [Array.getElem?_eq_none hge] at h1; cases h1
  go_wp2_with (with_reducible refine stop_copy (.tmp 7) (.tmp 8) _ _ rfl ?_)
  have hsrc := Src.of_in bc_len (by omega) (H.out.below hb1)
  have hfl := flat_length bc_len l
  refine Stop.mk (wpList_copy_splice rfl (.tmp 7) (.tmp 8) _ _ rfl 5 Tryd.underlying33 (by kernel_rfl) _ _ _ _ _ _ rfl rfl w.heap.size 0 cur 5 Hcur.out (l.flatMap bc) (by simp [hfl]) ?_ (by have := Hcl.out; omega) (bc_one l) w.heap.size w hb1 (Nat.le_refl _) ?_)
  · intro hpos
    obtain ⟨ad, h1, h2⟩ := hsrc.2 (by omega)
    exact ⟨rfl, ad, h1, h2⟩
  intro w2 hg2 hb2
  have hrow2 : Row 1 bc w2 w.heap.size 0 l := by
    have := hg2.out
    rw [splice_all Hcl.out] at this
    exact Row.of_heap this
  have hwz2 : w.heap.size < w2.heap.size := by
    have h1 := hg2.out
    rcases Nat.lt_or_ge w.heap.size w2.heap.size with hlt | hge
    · exact hlt
    · rw [Array.getElem?_eq_none hge] at h1; cases h1
  have Hrow2 := Lib.hid hrow2
  clear hrow2 hsrc hfl
  go_wp2_with (fail)
  go_ret
  refine ⟨w2.heap.size, rfl, by omega, ?_, (by repeat (first | exact Below.refl _ _ | refine Below.drew ?_ | refine Below.alloc ?_ (by first | omega | (simp; done) | (simp; omega)) _ | refine Below.setCell ?_ (by first | omega | (simp; done) | (simp; omega)) _ | refine Below.trans ?_ (Below.mono (by assumption) (by first | omega | (simp; done) | (simp; omega)))))⟩
  refine RdP.mk (A := some ⟨w.heap.size, 0, none⟩) (c := l.length) (B := l) (pos := 0) ⟨Blk.new _ _ _, by omega, Nat.le_refl _, by omega, hS, .inr ⟨_, _, rfl, hwz2, ?_⟩⟩ rfl
  exact Hrow2.out.below ((Below.refl _ _).alloc (Nat.le_refl _) _) hwz2
end Go.Proofs.YtjhndilflcigiaaDoor
namespace Go.Proofs.YtjhndilflcigiaaDoor
open Go.RowKit

set_option maxHeartbeats 400000 in
theorem c_octet_Err' (p : Option Nat) (st : Rd) (w : World) (h : RdP w p st) : Calls Tryd.prog 19 #[ptr p] w (RetV w (.int .i64 st.e)) := by
  rcases p with _ | g
  · have hs := h.nil
    subst hs
    rw [ptr_none]
    go_enter Tryd.func19, Tryd.ntmps19
    go_wp2_with (fail)
    go_ret
    exact RetV.of rfl (by repeat (first | exact Below.refl _ _ | refine Below.drew ?_ | refine Below.alloc ?_ (by first | omega | (simp; done) | (simp; omega)) _ | refine Below.setCell ?_ (by first | omega | (simp; done) | (simp; omega)) _ | refine Below.trans ?_ (Below.mono (by assumption) (by first | omega | (simp; done) | (simp; omega)))))
  · obtain ⟨A, c, B, pos, ha, hs⟩ := h.at
    have c2 : w.cell? ⟨g, 2, none⟩ = some (.int .i64 st.e) := ha.1.cell rfl
    have Hs := Lib.hid hs
    clear hs
    rw [ptr_some]
    go_enter Tryd.func19, Tryd.ntmps19
    go_wp2_with (fail)
    go_ret
    exact RetV.of rfl (by repeat (first | exact Below.refl _ _ | refine Below.drew ?_ | refine Below.alloc ?_ (by first | omega | (simp; done) | (simp; omega)) _ | refine Below.setCell ?_ (by first | omega | (simp; done) | (simp; omega)) _ | refine Below.trans ?_ (Below.mono (by assumption) (by first | omega | (simp; done) | (simp; omega)))))
set_option maxHeartbeats 400000 in
theorem c_octet_Left' (p : Option Nat) (st : Rd) (w : World) (h : RdP w p st) : Calls Tryd.prog 20 #[ptr p] w (RetV w (.int .i64 st.s.length)) := by
  rcases p with _ | g
  · have hs := h.nil
    subst hs
    rw [ptr_none]
    go_enter Tryd.func20, Tryd.ntmps20
    go_wp2_with (fail)
    go_ret
    exact RetV.of rfl (by repeat (first | exact Below.refl _ _ | refine Below.drew ?_ | refine Below.alloc ?_ (by first | omega | (simp; done) | (simp; omega)) _ | refine Below.setCell ?_ (by first | omega | (simp; done) | (simp; omega)) _ | refine Below.trans ?_ (Below.mono (by assumption) (by first | omega | (simp; done) | (simp; omega)))))
  · obtain ⟨A, c, B, pos, ha, hs⟩ := h.at
    have c0 : w.cell? ⟨g, 0, none⟩ = some (.slice A B.length c) := ha.1.cell rfl
    have c1 : w.cell? ⟨g, 1, none⟩ = some (.int .i64 pos) := ha.1.cell rfl
    have hL := ha.2.1
    have hC := ha.2.2.1
    have hC' := ha.2.2.2.1
    have hS := ha.2.2.2.2.1
    have hgl := ha.1.lt
    have hw : IntKind.i64.wrap ((B.length : Int) - (pos : Int)) = (st.s.length : Int) := by rw [IntWalk.i64_in _ (by omega), hs, List.length_drop]; omega
    have Hs := Lib.hid hs
    have Ha := Lib.hid ha
    clear hs ha
    rw [ptr_some]
    go_enter Tryd.func20, Tryd.ntmps20
    go_wp2_with (fail)
    refine wp_region_grow (by kernel_rfl) (by kernel_rfl) ?_
    repeat (quiet_step ((first | (fail))))
    refine wpQuiet_nil ?_
    intro w2 hb2
    go_wp2_with (fail)
    go_ret
    exact RetV.of rfl (by repeat (first | exact Below.refl _ _ | refine Below.drew ?_ | refine Below.alloc ?_ (by first | omega | (simp; done) | (simp; omega)) _ | refine Below.setCell ?_ (by first | omega | (simp; done) | (simp; omega)) _ | refine Below.trans ?_ (Below.mono (by assumption) (by first | omega | (simp; done) | (simp; omega)))))
end Go.Proofs.YtjhndilflcigiaaDoor
namespace Go.Proofs.YtjhndilflcigiaaDoor
open Go.RowKit

theorem rdEnd_bad {st : Rd} (h : st.e ≠ 0) : rdEnd st = st.e := by unfold rdEnd; rw [if_neg (fun x => h x.1)]
theorem rdEnd_left {st : Rd} (h : st.e = 0) (hs : st.s ≠ []) : rdEnd st = 3 := by unfold rdEnd; rw [if_pos ⟨h, hs⟩]
theorem rdEnd_ok {st : Rd} (hs : st.s = []) : rdEnd st = st.e := by unfold rdEnd; rw [if_neg (fun x => x.2 hs)]
set_option maxHeartbeats 400000 in
theorem c_octet_End (p : Option Nat) (st : Rd) (w : World) (h : RdP w p st) : Calls Tryd.prog 82 #[ptr p] w (RetV w (.int .i64 (rdEnd st))) := by
  rcases p with _ | g
  · have hs := h.nil
    subst hs
    rw [ptr_none]
    go_enter Tryd.func82, Tryd.ntmps82
    go_wp2_with (fail)
    go_ret
    exact RetV.of rfl (by repeat (first | exact Below.refl _ _ | refine Below.drew ?_ | refine Below.alloc ?_ (by first | omega | (simp; done) | (simp; omega)) _ | refine Below.setCell ?_ (by first | omega | (simp; done) | (simp; omega)) _ | refine Below.trans ?_ (Below.mono (by assumption) (by first | omega | (simp; done) | (simp; omega)))))
  · obtain ⟨A, c, B, pos, ha, hs⟩ := h.at
    have c2 : w.cell? ⟨g, 2, none⟩ = some (.int .i64 st.e) := ha.1.cell rfl
    have H := Lib.hid h
    clear h ha hs
    rw [ptr_some]
    by_cases he : st.e = 0
    · have k : (st.e == 0) = true := by simpa using he
      by_cases hl : st.s = []
      · rw [rdEnd_ok hl]
        have HL := Lib.hid (show st.s.length = 0 by rw [hl]; rfl)
        clear he hl
        go_enter Tryd.func82, Tryd.ntmps82
        go_wp2_with (fail)
        refine (c_octet_Left' (some g) st _ H.out).mono ?_
        rintro e w1 ⟨rfl, hb1⟩
        have c3 : w1.cell? ⟨g, 2, none⟩ = some (.int .i64 st.e) := by rw [hb1.cell (H.out.lt rfl)]; exact c2
        rw [HL.out]
        clear c2
        go_wp2_with (fail)
        go_ret
        exact RetV.of rfl (by repeat (first | exact Below.refl _ _ | refine Below.drew ?_ | refine Below.alloc ?_ (by first | omega | (simp; done) | (simp; omega)) _ | refine Below.setCell ?_ (by first | omega | (simp; done) | (simp; omega)) _ | refine Below.trans ?_ (Below.mono (by assumption) (by first | omega | (simp; done) | (simp; omega)))))
      · rw [rdEnd_left he hl]
        have hp : 0 < st.s.length := List.length_pos_iff.2 hl
        have HP := Lib.hid hp
        clear he hl hp
        go_enter Tryd.func82, Tryd.ntmps82
        go_wp2_with (fail)
        refine (c_octet_Left' (some g) st _ H.out).mono ?_
        rintro e w1 ⟨rfl, hb1⟩
        have k2 : decide (0 < (st.s.length : Int)) = true := by have := HP.out; simp; omega
        go_wp2_with (fail)
        go_ret
        exact RetV.of rfl (by repeat (first | exact Below.refl _ _ | refine Below.drew ?_ | refine Below.alloc ?_ (by first | omega | (simp; done) | (simp; omega)) _ | refine Below.setCell ?_ (by first | omega | (simp; done) | (simp; omega)) _ | refine Below.trans ?_ (Below.mono (by assumption) (by first | omega | (simp; done) | (simp; omega)))))
    · rw [rdEnd_bad he]
      have k : (st.e == 0) = false := by simpa using he
      clear he
      go_enter Tryd.func82, Tryd.ntmps82
      go_wp2_with (fail)
      go_ret
      exact RetV.of rfl (by repeat (first | exact Below.refl _ _ | refine Below.drew ?_ | refine Below.alloc ?_ (by first | omega | (simp; done) | (simp; omega)) _ | refine Below.setCell ?_ (by first | omega | (simp; done) | (simp; omega)) _ | refine Below.trans ?_ (Below.mono (by assumption) (by first | omega | (simp; done) | (simp; omega)))))
set_option maxHeartbeats 400000 in
theorem c_ref01_End (h : Nat) (st : Rd) (w : World) (r : RdR w h st) : Calls Tryd.prog 83 #[.pointer (some ⟨h, 0, none⟩)] w (RetV w (.int .i64 (rdEnd st))) := by
  have c0 : w.cell? ⟨h, 0, none⟩ = some (.string (str st.s)) := r.1.cell rfl
  have c1 : w.cell? ⟨h, 1, none⟩ = some (.int .i64 st.e) := r.1.cell rfl
  clear r
  by_cases he : st.e = 0
  · have k : (st.e == 0) = true := by simpa using he
    by_cases hl : st.s = []
    · rw [rdEnd_ok hl]
      rw [hl] at c0
      clear he hl
      go_enter Tryd.func83, Tryd.ntmps83
      go_wp2_with (fail)
      go_ret
      exact RetV.of rfl (by repeat (first | exact Below.refl _ _ | refine Below.drew ?_ | refine Below.alloc ?_ (by first | omega | (simp; done) | (simp; omega)) _ | refine Below.setCell ?_ (by first | omega | (simp; done) | (simp; omega)) _ | refine Below.trans ?_ (Below.mono (by assumption) (by first | omega | (simp; done) | (simp; omega)))))
    · rw [rdEnd_left he hl]
      have k2 : st.s.isEmpty = false := by simpa using hl
      clear he hl
      go_enter Tryd.func83, Tryd.ntmps83
      go_wp2_with (fail)
      all_goals
        go_ret
        exact RetV.of rfl (by repeat (first | exact Below.refl _ _ | refine Below.drew ?_ | refine Below.alloc ?_ (by first | omega | (simp; done) | (simp; omega)) _ | refine Below.setCell ?_ (by first | omega | (simp; done) | (simp; omega)) _ | refine Below.trans ?_ (Below.mono (by assumption) (by first | omega | (simp; done) | (simp; omega)))))
  · rw [rdEnd_bad he]
    have k : (st.e == 0) = false := by simpa using he
    clear he
    go_enter Tryd.func83, Tryd.ntmps83
    go_wp2_with (fail)
    go_ret
    exact RetV.of rfl (by repeat (first | exact Below.refl _ _ | refine Below.drew ?_ | refine Below.alloc ?_ (by first | omega | (simp; done) | (simp; omega)) _ | refine Below.setCell ?_ (by first | omega | (simp; done) | (simp; omega)) _ | refine Below.trans ?_ (Below.mono (by assumption) (by first | omega | (simp; done) | (simp; omega)))))
end Go.Proofs.YtjhndilflcigiaaDoor
namespace Go.Proofs.YtjhndilflcigiaaDoor
open Go.RowKit

theorem results_B2 {P : Program} {w : World} {fn : Func} {p s : Tmp} {ty : TypeId} (h : fn.results = #[.cell p ty, .tmp s]) {tmps : Array Value} {g : Nat} {cs : Array Value} {v : Value} (hp : tmps.getD p undef = .pointer (some ⟨g, 0, none⟩)) (hv : tmps.getD s undef = v) (hb : Blk w g cs) {n : Nat} (S : Str P ty n) (hn : cs.size = n) :
    (results fn tmps).run P w = .ok (.tuple #[.agg cs, v]) w := by
  obtain ⟨d, h1, h2⟩ := S.desc
  obtain ⟨t, hb⟩ := hb
  have hl := run_loadVar_row (P := P) w g t ty cs (0, 0) d hb h1 (by cases d <;> first | rfl | (simp at h2)) (by rw [S.size, hn])
  have hp' : tmps[p]?.getD undef = .pointer (some ⟨g, 0, none⟩) := by simpa using hp
  have hv' : tmps[s]?.getD undef = v := by simpa using hv
  simp [results, h, hp', hv', asAddr, hl]
theorem fresh_below {w w' : World} {o : Obj} (hk : Kept (some w.heap.size) (w.alloc o).heap.size (w.alloc o) w') : Below w.heap.size w w' := ((Below.refl _ _).alloc (Nat.le_refl _) _).trans (hk.oneB (by simp) (Nat.le_refl _))
theorem stop_box {P : Program} {w : World} {ops : Array Oper} {rest : List Oper} {o : Oper} {a : Act} {Q : Exit → Act → World → Prop} (t : TypeId) (x : Operand) (_ : o.op = .box t x) (h : Stop (wpList P ops Q (o :: rest) a w)) : wpList P ops Q (o :: rest) a w := h
/-- The first block of a call's own is made. -/
theorem At.go {P : Program} {ops : Array Oper} {l : List Oper} {a : Act} {Q : Exit → Act → World → Prop} {t : TypeId} {w : World} {cs : Array Value} (h : ∀ w', At w w' cs → w'.heap.size = w.heap.size + 1 → wpList P ops Q l a w') :
    wpList P ops Q l a (w.alloc (.cells cs t)) := h _ (At.new w t cs) (by simp)
theorem At.as {w w' : World} {cs ds : Array Value} (h : At w w' cs) (e : cs = ds) : At w w' ds := e ▸ h
theorem At.kept {w w1 w2 : World} {cs : Array Value} (h : At w w1 cs) {q : Nat} (hq : w.heap.size < q) (k : Kept (some q) w1.heap.size w1 w2) : At w w2 cs :=
  ⟨h.1.trans (k.oneB h.1.size (by omega)), h.2.kept k h.2.lt (fun e => by injection e with e; omega)⟩
theorem At.lt {w w' : World} {cs : Array Value} (h : At w w' cs) : w.heap.size < w'.heap.size := h.2.lt
end Go.Proofs.YtjhndilflcigiaaDoor
