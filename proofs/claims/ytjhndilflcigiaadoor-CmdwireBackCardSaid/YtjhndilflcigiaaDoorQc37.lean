/-
  Lemmas (walks and plain laws), in one text.
-/
import Derived.Test.YtjhndilflcigiaaDoorQc36
import Derived.Test.YtjhndilflcigiaaDoorRows
import Derived.WalkKit
import Derived.WalkSpells
import Derived.WalkLawsBesides
import Derived.Lib.Hide
import Derived.Deep.QuietTactic
import Derived.BigQuiet
import Derived.Maps.AppendAt
import Derived.WalkSmall
import Derived.ProofKit
import Derived.OpenShut
import Derived.JoinedCond
import Derived.Deep.Slices
import Derived.Deep.Fields
import Derived.Carry
import Derived.Deep.AppendSrc
import Derived.Lib.AppendStr
import Derived.Laws.BytesArg
import Derived.Test.YtjhndilflcigiaaDoorProg
import Derived.Shelf.Spec.TrailingZeros
import Derived.RangeFuncNested
import Derived.RangeFuncBound
import Derived.RangeFuncCalls
import Derived.RangeFuncLeaves
import Derived.Shelf.Abstract
import Derived.Shelf.RegionOpen
import Derived.OwnWalkIn
import Derived.TacticsInMore
import Derived.LoopNIn
import Derived.LoopIn
import Derived.Test.YtjhndilflcigiaaDoorTie
import Derived.Lib.LaidTab
import Derived.LaidMore
import Derived.SevenTiedAt
import Derived.Test.YtjhndilflcigiaaDoorCards
import Derived.Laws.Tables
import Derived.Laws.Rows
import Derived.ChangeKeysEq
import Derived.Laws.StructEq
import Derived.Deep.CutBlock
import Derived.Deep.DeepCutAuto
import Derived.Laws.CopyOwn
import Derived.Outline
import Derived.IntWalk
import Derived.Lib.EndianBits
import Derived.StillTail
import Derived.Lib.AppendZeros
import Derived.Deep.Quiet
import Derived.Maps.Own
import Derived.WalkMore
namespace Go.Proofs.YtjhndilflcigiaaDoor
open Go.RowKit

/-- The first block of a call's own is made. -/
theorem EnvR.go {P : Program} {ops : Array Oper} {l : List Oper} {a : Act} {Q : Exit → Act → World → Prop} {t : TypeId} {p : Nat} {S : Rd} {w : World} {cs : Array Value} (r : RdR w p S) (h : ∀ w', EnvR p S w w' [(w.heap.size, cs)] → w'.heap.size = w.heap.size + 1 → wpList P ops Q l a w') :
    wpList P ops Q l a (w.alloc (.cells cs t)) := h _ ((EnvR.start r).alloc t cs) (by simp)
theorem stop_call {P : Program} {w : World} {ops : Array Oper} {rest : List Oper} {o : Oper} {a : Act} {Q : Exit → Act → World → Prop} (c : Call) (_ : o.op = .call c) (h : Stop (wpList P ops Q (o :: rest) a w)) : wpList P ops Q (o :: rest) a w := h
end Go.Proofs.YtjhndilflcigiaaDoor
namespace Go.Proofs.YtjhndilflcigiaaDoor
open Go.RowKit

theorem splice_all {l : List UInt8} {cur : List Value} (hc : cur.length = l.length) : splice cur 0 (l.flatMap bc) = l.flatMap bc := by
  have hl := flat_length bc_len l
  unfold splice
  rw [List.take_zero, List.nil_append, List.drop_of_length_le (by omega), List.append_nil]
theorem Row.of_heap {w : World} {b : Nat} {t : TypeId} {l : List UInt8} (h : w.heap[b]? = some (.cells (l.flatMap bc).toArray t (0, 0))) : Row 1 bc w b 0 l := by
  intro i hi j u hu
  have hj : j < 1 := (List.getElem?_eq_some_iff.1 hu).1
  have h0 : j = 0 := by omega
  subst h0
  have := flat_get bc_len l i hi 0 (by omega)
  rw [cell_of_row w b _ _ _ _ h, List.getElem?_toArray, Nat.zero_add, this]
  exact hu
/-- The walk stands still at a copy. -/
theorem stop_copy {P : Program} {w : World} {ops : Array Oper} {rest : List Oper} {o : Oper} {a : Act} {Q : Exit → Act → World → Prop} (d s : Operand) (dT sT : TypeId)
    (_ : o.op = .call { callee := .builtin .copy, args := #[d, s], argTypes := #[dT, sT] }) (h : Stop (wpList P ops Q (o :: rest) a w)) : wpList P ops Q (o :: rest) a w := h
set_option maxHeartbeats 400000 in
set_option maxRecDepth 4000 in
theorem c_octet_New (l : List UInt8) (A : Option Addr) (c : Nat) (w : World) (h : InB w A c l) : Calls Tryd.prog 16 #[.slice A l.length c] w (RetNew w l) := by
  have hL := h.1
  have hC := h.2.1
  have hS := h.2.2.1
  obtain ⟨i, z, hi, hz0, hz1, hz2, hz3⟩ := elemB.info
  have H := Lib.hid h
  clear h
  go_enter Tryd.func16, Tryd.ntmps16
  go_wp2_with (at_make; refine Stop.out ?_)
  refine Stop.mk (wpList_make_full _ rfl (.tmp 5) (.tmp 5) 33 rfl w.heap.size 5 i z 1 Tryd.underlying33 hi hz0 hz1 _ _ _ _ l.length rfl rfl rfl rfl (by rw [hz2]; omega) (by unfold maxLen; omega) (Nat.le_refl _) ?_)
  intro w1 own1 g1
  have hb1 : Below w.heap.size w w1 := grown_below g1 (Nat.le_refl _) (fun k hk => by cases hk)
  obtain ⟨cur, hcur, hcl⟩ : ∃ cur : List Value, w1.heap[w.heap.size]? = some (.cells cur.toArray 5 (0, 0)) ∧ cur.length = l.length := by
    rcases own1.2 with ⟨hv, _⟩ | ⟨g, cap, cur, hv, _, hh, _, _, hs, _⟩
    · cases hv
    · injection hv with e1 e2 e3
      injection e1 with e1
      injection e1 with e1
      subst e1 e3
      exact ⟨cur.toList, hh, by simpa using hs⟩
  have Hcur := Lib.hid hcur
  have Hcl := Lib.hid hcl
  have Own1 := Lib.hid own1
  have hz1' := hb1.size
  clear hcur hcl own1 g1
  have hwz : w.heap.size < w1.heap.size := by
    have h1 := Hcur.out
    rcases Nat.lt_or_ge w.heap.size w1.heap.size with hlt | hge
    · exact hlt
    · rw [Array.getElem?_eq_none hge] at h1; cases h1
  go_wp2_with (with_reducible refine stop_copy (.tmp 7) (.tmp 8) _ _ rfl ?_)
  have hsrc := Src.of_in bc_len (by omega) (H.out.below hb1)
  have hfl := flat_length bc_len l
  refine Stop.mk (wpList_copy_splice rfl (.tmp 7) (.tmp 8) _ _ rfl 5 Tryd.underlying33 (by kernel_rfl) _ _ _ _ _ _ rfl rfl w.heap.size 0 cur 5 Hcur.out (l.flatMap bc) (by simp [hfl]) ?_ (by have := Hcl.out; omega) (bc_one l) w.heap.size w hb1 (Nat.le_refl _) ?_)
  · intro hpos
    obtain ⟨ad, h1, h2⟩ := hsrc.2 (by omega)
    exact ⟨rfl, ad, h1, h2⟩
  intro w2 hg2 hb2
  have hrow2 : Row 1 bc w2 w.heap.size 0 l := by
    have := hg2.out
    rw [splice_all Hcl.out] at this
    exact Row.of_heap this
  have hwz2 : w.heap.size < w2.heap.size := by
    have h1 := hg2.out
    rcases Nat.lt_or_ge w.heap.size w2.heap.size with hlt | hge
    · exact hlt
    · rw [Array.getElem?_eq_none hge] at h1; cases h1
  have Hrow2 := Lib.hid hrow2
  clear hrow2 hsrc hfl
  go_wp2_with (fail)
  go_ret
  refine ⟨w2.heap.size, rfl, by omega, ?_, (by repeat (first | exact Below.refl _ _ | refine Below.drew ?_ | refine Below.alloc ?_ (by first | omega | (simp; done) | (simp; omega)) _ | refine Below.setCell ?_ (by first | omega | (simp; done) | (simp; omega)) _ | refine Below.trans ?_ (Below.mono (by assumption) (by first | omega | (simp; done) | (simp; omega)))))⟩
  refine RdP.mk (A := some ⟨w.heap.size, 0, none⟩) (c := l.length) (B := l) (pos := 0) ⟨Blk.new _ _ _, by omega, Nat.le_refl _, by omega, hS, .inr ⟨_, _, rfl, hwz2, ?_⟩⟩ rfl
  exact Hrow2.out.below ((Below.refl _ _).alloc (Nat.le_refl _) _) hwz2
end Go.Proofs.YtjhndilflcigiaaDoor
namespace Go.Proofs.YtjhndilflcigiaaDoor
open Go.RowKit

set_option maxHeartbeats 400000 in
theorem c_octet_Err' (p : Option Nat) (st : Rd) (w : World) (h : RdP w p st) : Calls Tryd.prog 19 #[ptr p] w (RetV w (.int .i64 st.e)) := by
  rcases p with _ | g
  · have hs := h.nil
    subst hs
    rw [ptr_none]
    go_enter Tryd.func19, Tryd.ntmps19
    go_wp2_with (fail)
    go_ret
    exact RetV.of rfl (by repeat (first | exact Below.refl _ _ | refine Below.drew ?_ | refine Below.alloc ?_ (by first | omega | (simp; done) | (simp; omega)) _ | refine Below.setCell ?_ (by first | omega | (simp; done) | (simp; omega)) _ | refine Below.trans ?_ (Below.mono (by assumption) (by first | omega | (simp; done) | (simp; omega)))))
  · obtain ⟨A, c, B, pos, ha, hs⟩ := h.at
    have c2 : w.cell? ⟨g, 2, none⟩ = some (.int .i64 st.e) := ha.1.cell rfl
    have Hs := Lib.hid hs
    clear hs
    rw [ptr_some]
    go_enter Tryd.func19, Tryd.ntmps19
    go_wp2_with (fail)
    go_ret
    exact RetV.of rfl (by repeat (first | exact Below.refl _ _ | refine Below.drew ?_ | refine Below.alloc ?_ (by first | omega | (simp; done) | (simp; omega)) _ | refine Below.setCell ?_ (by first | omega | (simp; done) | (simp; omega)) _ | refine Below.trans ?_ (Below.mono (by assumption) (by first | omega | (simp; done) | (simp; omega)))))
set_option maxHeartbeats 400000 in
theorem c_octet_Left' (p : Option Nat) (st : Rd) (w : World) (h : RdP w p st) : Calls Tryd.prog 20 #[ptr p] w (RetV w (.int .i64 st.s.length)) := by
  rcases p with _ | g
  · have hs := h.nil
    subst hs
    rw [ptr_none]
    go_enter Tryd.func20, Tryd.ntmps20
    go_wp2_with (fail)
    go_ret
    exact RetV.of rfl (by repeat (first | exact Below.refl _ _ | refine Below.drew ?_ | refine Below.alloc ?_ (by first | omega | (simp; done) | (simp; omega)) _ | refine Below.setCell ?_ (by first | omega | (simp; done) | (simp; omega)) _ | refine Below.trans ?_ (Below.mono (by assumption) (by first | omega | (simp; done) | (simp; omega)))))
  · obtain ⟨A, c, B, pos, ha, hs⟩ := h.at
    have c0 : w.cell? ⟨g, 0, none⟩ = some (.slice A B.length c) := ha.1.cell rfl
    have c1 : w.cell? ⟨g, 1, none⟩ = some (.int .i64 pos) := ha.1.cell rfl
    have hL := ha.2.1
    have hC := ha.2.2.1
    have hC' := ha.2.2.2.1
    have hS := ha.2.2.2.2.1
    have hgl := ha.1.lt
    have hw : IntKind.i64.wrap ((B.length : Int) - (pos : Int)) = (st.s.length : Int) := by rw [IntWalk.i64_in _ (by omega), hs, List.length_drop]; omega
    have Hs := Lib.hid hs
    have Ha := Lib.hid ha
    clear hs ha
    rw [ptr_some]
    go_enter Tryd.func20, Tryd.ntmps20
    go_wp2_with (fail)
    refine wp_region_grow (by kernel_rfl) (by kernel_rfl) ?_
    repeat (quiet_step ((first | (fail))))
    refine wpQuiet_nil ?_
    intro w2 hb2
    go_wp2_with (fail)
    go_ret
    exact RetV.of rfl (by repeat (first | exact Below.refl _ _ | refine Below.drew ?_ | refine Below.alloc ?_ (by first | omega | (simp; done) | (simp; omega)) _ | refine Below.setCell ?_ (by first | omega | (simp; done) | (simp; omega)) _ | refine Below.trans ?_ (Below.mono (by assumption) (by first | omega | (simp; done) | (simp; omega)))))
end Go.Proofs.YtjhndilflcigiaaDoor
namespace Go.Proofs.YtjhndilflcigiaaDoor
open Go.RowKit

theorem rdEnd_bad {st : Rd} (h : st.e ≠ 0) : rdEnd st = st.e := by unfold rdEnd; rw [if_neg (fun x => h x.1)]
theorem rdEnd_left {st : Rd} (h : st.e = 0) (hs : st.s ≠ []) : rdEnd st = 3 := by unfold rdEnd; rw [if_pos ⟨h, hs⟩]
theorem rdEnd_ok {st : Rd} (hs : st.s = []) : rdEnd st = st.e := by unfold rdEnd; rw [if_neg (fun x => x.2 hs)]
set_option maxHeartbeats 400000 in
theorem c_octet_End (p : Option Nat) (st : Rd) (w : World) (h : RdP w p st) : Calls Tryd.prog 82 #[ptr p] w (RetV w (.int .i64 (rdEnd st))) := by
  rcases p with _ | g
  · have hs := h.nil
    subst hs
    rw [ptr_none]
    go_enter Tryd.func82, Tryd.ntmps82
    go_wp2_with (fail)
    go_ret
    exact RetV.of rfl (by repeat (first | exact Below.refl _ _ | refine Below.drew ?_ | refine Below.alloc ?_ (by first | omega | (simp; done) | (simp; omega)) _ | refine Below.setCell ?_ (by first | omega | (simp; done) | (simp; omega)) _ | refine Below.trans ?_ (Below.mono (by assumption) (by first | omega | (simp; done) | (simp; omega)))))
  · obtain ⟨A, c, B, pos, ha, hs⟩ := h.at
    have c2 : w.cell? ⟨g, 2, none⟩ = some (.int .i64 st.e) := ha.1.cell rfl
    have H := Lib.hid h
    clear h ha hs
    rw [ptr_some]
    by_cases he : st.e = 0
    · have k : (st.e == 0) = true := by simpa using he
      by_cases hl : st.s = []
      · rw [rdEnd_ok hl]
        have HL := Lib.hid (show st.s.length = 0 by rw [hl]; rfl)
        clear he hl
        go_enter Tryd.func82, Tryd.ntmps82
        go_wp2_with (fail)
        refine (c_octet_Left' (some g) st _ H.out).mono ?_
        rintro e w1 ⟨rfl, hb1⟩
        have c3 : w1.cell? ⟨g, 2, none⟩ = some (.int .i64 st.e) := by rw [hb1.cell (H.out.lt rfl)]; exact c2
        rw [HL.out]
        clear c2
        go_wp2_with (fail)
        go_ret
        exact RetV.of rfl (by repeat (first | exact Below.refl _ _ | refine Below.drew ?_ | refine Below.alloc ?_ (by first | omega | (simp; done) | (simp; omega)) _ | refine Below.setCell ?_ (by first | omega | (simp; done) | (simp; omega)) _ | refine Below.trans ?_ (Below.mono (by assumption) (by first | omega | (simp; done) | (simp; omega)))))
      · rw [rdEnd_left he hl]
        have hp : 0 < st.s.length := List.length_pos_iff.2 hl
        have HP := Lib.hid hp
        clear he hl hp
        go_enter Tryd.func82, Tryd.ntmps82
        go_wp2_with (fail)
        refine (c_octet_Left' (some g) st _ H.out).mono ?_
        rintro e w1 ⟨rfl, hb1⟩
        have k2 : decide (0 < (st.s.length : Int)) = true := by have := HP.out; simp; omega
        go_wp2_with (fail)
        go_ret
        exact RetV.of rfl (by repeat (first | exact Below.refl _ _ | refine Below.drew ?_ | refine Below.alloc ?_ (by first | omega | (simp; done) | (simp; omega)) _ | refine Below.setCell ?_ (by first | omega | (simp; done) | (simp; omega)) _ | refine Below.trans ?_ (Below.mono (by assumption) (by first | omega | (simp; done) | (simp; omega)))))
    · rw [rdEnd_bad he]
      have k : (st.e == 0) = false := by simpa using he
      clear he
      go_enter Tryd.func82, Tryd.ntmps82
      go_wp2_with (fail)
      go_ret
      exact RetV.of rfl (by repeat (first | exact Below.refl _ _ | refine Below.drew ?_ | refine Below.alloc ?_ (by first | omega | (simp; done) | (simp; omega)) _ | refine Below.setCell ?_ (by first | omega | (simp; done) | (simp; omega)) _ | refine Below.trans ?_ (Below.mono (by assumption) (by first | omega | (simp; done) | (simp; omega)))))
end Go.Proofs.YtjhndilflcigiaaDoor
namespace Go.Proofs.YtjhndilflcigiaaDoor
open Go.RowKit

theorem results_B2 {P : Program} {w : World} {fn : Func} {p s : Tmp} {ty : TypeId} (h : fn.results = #[.cell p ty, .tmp s]) {tmps : Array Value} {g : Nat} {cs : Array Value} {v : Value} (hp : tmps.getD p undef = .pointer (some ⟨g, 0, none⟩)) (hv : tmps.getD s undef = v) (hb : Blk w g cs) {n : Nat} (S : Str P ty n) (hn : cs.size = n) :
    (results fn tmps).run P w = .ok (.tuple #[.agg cs, v]) w := by
  obtain ⟨d, h1, h2⟩ := S.desc
  obtain ⟨t, hb⟩ := hb
  have hl := run_loadVar_row (P := P) w g t ty cs (0, 0) d hb h1 (by cases d <;> first | rfl | (simp at h2)) (by rw [S.size, hn])
  have hp' : tmps[p]?.getD undef = .pointer (some ⟨g, 0, none⟩) := by simpa using hp
  have hv' : tmps[s]?.getD undef = v := by simpa using hv
  simp [results, h, hp', hv', asAddr, hl]
theorem fresh_below {w w' : World} {o : Obj} (hk : Kept (some w.heap.size) (w.alloc o).heap.size (w.alloc o) w') : Below w.heap.size w w' := ((Below.refl _ _).alloc (Nat.le_refl _) _).trans (hk.oneB (by simp) (Nat.le_refl _))
/-- The first block of a call's own is made. -/
theorem At.go {P : Program} {ops : Array Oper} {l : List Oper} {a : Act} {Q : Exit → Act → World → Prop} {t : TypeId} {w : World} {cs : Array Value} (h : ∀ w', At w w' cs → w'.heap.size = w.heap.size + 1 → wpList P ops Q l a w') :
    wpList P ops Q l a (w.alloc (.cells cs t)) := h _ (At.new w t cs) (by simp)
theorem At.as {w w' : World} {cs ds : Array Value} (h : At w w' cs) (e : cs = ds) : At w w' ds := e ▸ h
theorem At.kept {w w1 w2 : World} {cs : Array Value} (h : At w w1 cs) {q : Nat} (hq : w.heap.size < q) (k : Kept (some q) w1.heap.size w1 w2) : At w w2 cs :=
  ⟨h.1.trans (k.oneB h.1.size (by omega)), h.2.kept k h.2.lt (fun e => by injection e with e; omega)⟩
theorem At.lt {w w' : World} {cs : Array Value} (h : At w w' cs) : w.heap.size < w'.heap.size := h.2.lt
end Go.Proofs.YtjhndilflcigiaaDoor
namespace Go.Proofs.YtjhndilflcigiaaDoor
open Go.RowKit

theorem In.ownN {α : Type} {k : Nat} {cs : α → List Value} {w : World} {base : Nat} {e : TypeId} {A : Option Addr} {c : Nat} {l : List α} (hk : ∀ x, (cs x).length = k) (h : w.ownsRow base e k (.slice A l.length c) l.length (l.flatMap cs)) (hs : l.length ≤ 4294967296) : In k cs w A c l := by
  obtain ⟨A', c', hv, hin⟩ := In.of_own hk h hs
  injection hv with e1 _ e2
  subst e1 e2
  exact hin
/-- The two readers; g ahead of h; nothing below the call's own has turned. -/
structure RW (w w' : World) (g h : Nat) (s1 s2 : Rd) : Prop where
  below : Below w.heap.size w w'
  rp : RdP w' (some g) s1
  rr : RdR w' h s2
  og : w.heap.size ≤ g
  gh : g < h
section
variable {w w' w2 : World} {g h : Nat} {s1 s2 s3 : Rd}
theorem RW.step (L : RW w w' g h s1 s2) (hb : Below w'.heap.size w' w2) : RW w w2 g h s1 s2 := ⟨L.below.trans (hb.mono L.below.size), L.rp.below hb, L.rr.below hb, L.og, L.gh⟩
theorem RW.hi (L : RW w w' g h s1 s2) : h < w'.heap.size := L.rr.lt
end
end Go.Proofs.YtjhndilflcigiaaDoor
namespace Go.Proofs.YtjhndilflcigiaaDoor
open Go.RowKit

def decE (b : List UInt8) : Int := rdEnd (rdCmd' ⟨b, 0⟩)
def decC (b : List UInt8) : Cmd := if decE b = 0 then rdCmd ⟨b, 0⟩ else cmdz
/-- The end of Decode. -/
def RetDC (w : World) (c : Cmd) (code : Int) (e : Ending) (w' : World) : Prop :=
  ∃ A n, e = .returned (.tuple #[.agg (c.arr A n), .int .i64 code]) ∧ w'.ownsRow w.heap.size 132 5 (.slice A c.f.length n) c.f.length (c.f.flatMap Node.cells) ∧ Below w.heap.size w w'
theorem rdCmd_wf (st : Rd) : (rdCmd st).wf := ⟨(rdCmd_len st).1, (rdCmd_len st).2⟩
set_option maxHeartbeats 4000000 in
set_option maxRecDepth 10000 in
theorem c_cmdwire_Decode (b : List UInt8) (B : Option Addr) (cb : Nat) (w : World) (hT : Tab w) (h : InB w B cb b) : Calls Tryd.prog 30 #[.slice B b.length cb] w (RetDC w (decC b) (decE b)) := by
  have HT := Lib.hid hT
  have H := Lib.hid h
  have hw := Lib.hid (rdCmd_wf ⟨b, 0⟩)
  obtain ⟨C, hC⟩ : ∃ c, c = rdCmd ⟨b, 0⟩ := ⟨_, rfl⟩
  obtain ⟨SS, hSS⟩ : ∃ s, s = rdCmd' ⟨b, 0⟩ := ⟨_, rfl⟩
  obtain ⟨X, hX⟩ : ∃ e, e = rdEnd SS := ⟨_, rfl⟩
  rw [← hC] at hw
  have HC := Lib.hid hC
  have HSS := Lib.hid hSS
  have HX := Lib.hid hX
  have e1 : decE b = X := by unfold decE; rw [← hSS, hX]
  have e2 : decC b = if X = 0 then C else cmdz := by unfold decC; rw [e1, ← hC]
  obtain ⟨D, hD⟩ : ∃ d, d = if X = 0 then C else cmdz := ⟨_, rfl⟩
  rw [e1, e2, ← hD]
  have HD := Lib.hid hD
  clear hT h hC hSS hX e1 e2 hD
  cases hz : (X != 0)
  all_goals
    go_enter Tryd.func30, Tryd.ntmps30
    go_wp2_with (with_reducible refine stop_call _ rfl ?_)
    refine Stop.mk (At.go ?_)
    intro w00 a00 hz00
    clear hz00
    have B0 := Lib.hid (a00.as (cmdK_arr 0).symm)
    clear a00
    go_wp2_with (fail)
    refine (c_octet_New b B cb _ (H.out.below B0.out.1)).mono ?_
    rintro e w1 ⟨g, rfl, hg, hr1, hb1⟩
    have HG := Lib.hid (show w.heap.size < g by have := B0.out.lt; omega)
    replace B0 := Lib.hid (B0.out.step hb1)
    clear hb1 hg
    go_wp2_with (fail)
    refine (c_cmdwire_Read (some g) ⟨b, 0⟩ _ (HT.out.below B0.out.1) hr1).mono ?_
    rintro e w2 ⟨A, n, rfl, own2, hr2, hk2⟩
    rw [← HC.out] at own2 ⊢
    rw [← HSS.out] at hr2
    have hlw1 := B0.out.lt
    replace B0 := Lib.hid (B0.out.kept HG.out hk2)
    have O := Lib.hid own2
    have HR := Lib.hid hr2
    have hlw2 := B0.out.lt
    clear hr1 own2 hr2 hk2
    go_wp2_with (with_reducible refine stop_store 32 (.tmp 5) (.tmp 10) rfl rfl ?_)
    refine Stop.mk (wpList_storeB rfl _ _ _ rfl w2.heap.size _ rfl rfl _ (Blk.new _ _ _) strCm (Cmd.arr_size hw.out) (by rw [Cmd.arr_size hw.out]; rfl) (Cmd.arr_ones hw.out) ?_)
    intro w3 hb3 hk3
    have hB3 := fresh_below hk3
    replace B0 := Lib.hid (B0.out.step hB3)
    replace HR := Lib.hid (HR.out.below hB3)
    replace O := Lib.hid (own_below O.out hB3)
    obtain ⟨q, hq⟩ : ∃ q, q = w2.heap.size := ⟨_, rfl⟩
    rw [← hq] at hb3 ⊢
    have Bq := Lib.hid hb3
    have hqw : w.heap.size < q := by omega
    clear hb3 hk3 hB3 hq
    go_wp2_with (fail)
    refine (c_octet_End (some g) SS _ HR.out).mono ?_
    rintro e w4 ⟨rfl, hb4⟩
    rw [← HX.out]
    replace Bq := Lib.hid (Bq.out.below hb4 Bq.out.lt)
    replace B0 := Lib.hid (B0.out.step hb4)
    replace O := Lib.hid (own_below O.out hb4)
    clear hb4 HR
  · have h0 : X = 0 := by simpa using hz
    have HD2 := Lib.hid (HD.out.trans (if_pos h0))
    have H0 := Lib.hid h0
    clear h0
    go_wp2_with (with_reducible refine stop_load 32 (.tmp 5) rfl rfl ?_)
    refine Stop.mk (wpList_loadB rfl _ _ rfl q rfl _ Bq.out strCm (Cmd.arr_size hw.out) ?_)
    go_wp2_with (with_reducible refine stop_store 32 (.tmp 2) (.tmp 17) rfl rfl ?_)
    refine Stop.mk (wpList_storeB rfl _ _ _ rfl w.heap.size _ rfl rfl _ B0.out.2 strCm (Cmd.arr_size hw.out) (by rw [Cmd.arr_size hw.out, Cmd.arr_size cmdz_wf]) (Cmd.arr_ones hw.out) ?_)
    intro w99 hb99 hk99
    have hbw : Below w.heap.size w w99 := B0.out.1.trans (hk99.oneB B0.out.1.size (Nat.le_refl _))
    have O9 := own_kept O.out hk99 (fun g hg => by injection hg with hg; omega)
    clear hk99
    go_wp2_with (fail)
    refine bodyPost_ret (results_B2 rfl rfl rfl hb99 strCm (Cmd.arr_size hw.out)) rfl ⟨A, n, ?_, by rw [HD2.out]; exact own_base O9 (by omega), hbw⟩
    rw [H0.out, HD2.out]
    rfl
  · have h0 : X ≠ 0 := by simpa using hz
    have HD2 := Lib.hid (HD.out.trans (if_neg h0))
    clear h0
    go_wp2_with (with_reducible refine stop_store 32 (.tmp 2) (.tmp 15) rfl rfl ?_)
    refine Stop.mk (wpList_storeB rfl _ _ _ rfl w.heap.size _ rfl rfl _ B0.out.2 strCm (cmdK_size 0) (by rw [cmdK_size, Cmd.arr_size cmdz_wf]) (cmdK_one 0) ?_)
    intro w99 hb99 hk99
    have hbw : Below w.heap.size w w99 := B0.out.1.trans (hk99.oneB B0.out.1.size (Nat.le_refl _))
    clear hk99
    go_wp2_with (fail)
    refine bodyPost_ret (results_B2 rfl rfl rfl hb99 strCm (cmdK_size 0)) rfl ⟨none, 0, ?_, by rw [HD2.out]; exact World.ownsRow_nil _ _ _ _, hbw⟩
    rw [HD2.out, cmdK_arr 0]
    rfl
end Go.Proofs.YtjhndilflcigiaaDoor
namespace Go.Proofs.YtjhndilflcigiaaDoor
open Go.RowKit

theorem rdCmd_flen (st : Rd) : (rdCmd st).f.length ≤ 31 := by
  unfold rdCmd rdCmdRaw
  repeat' split
  all_goals first
    | (simp only; unfold rdPred; split <;> first | exact pdL_len _ | simp)
    | simp
end Go.Proofs.YtjhndilflcigiaaDoor
namespace Go.Proofs.YtjhndilflcigiaaDoor
open Go.RowKit

theorem In.takeN {α : Type} {k : Nat} {cs : α → List Value} {w : World} {A : Option Addr} {c : Nat} {l : List α} (h : In k cs w A c l) {n : Nat} (hn : n ≤ l.length) : In k cs w A c (l.take n) := by
  have hl : (l.take n).length = n := by rw [List.length_take]; omega
  have h1 := h.1
  have h3 := h.2.2.1
  refine ⟨by omega, h.2.1, by omega, ?_⟩
  rcases h.2.2.2 with h0 | ⟨b, off, hA, hb, hr⟩
  · subst h0; left; simp
  · exact .inr ⟨b, off, hA, hb, hr.take n⟩
theorem head_runN (A : Option Addr) (c len n : Nat) (hn : n ≤ len) (hc : len ≤ c) (x : World) :
    (Instr.slice 33 (.slice A len c) none (some (.int .i64 n)) none).run Tryd.prog x = .ok (.slice A n c) x := by
  have hr := run_slice_h (P := Tryd.prog) (w := x) 33 A len c bytes_elem .i64 (n : Int) (by omega) (by omega)
  rw [hr, bytes_size]
  simp only [Result.andThen, sliced]
  rw [show ((n : Int)).toNat = n by omega, Nat.zero_mul, Nat.sub_zero, Nat.sub_zero]
  have : A.map (·.add 0) = A := by
    cases A with
    | none => rfl
    | some a => simp [Addr.add]
  rw [this]
  split <;> rfl
end Go.Proofs.YtjhndilflcigiaaDoor
