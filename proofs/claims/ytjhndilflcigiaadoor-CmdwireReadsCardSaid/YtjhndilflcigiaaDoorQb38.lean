/-
  Lemmas (walks and plain laws), in one text.
-/
import Derived.Test.YtjhndilflcigiaaDoorQb37
import Derived.Test.YtjhndilflcigiaaDoorRows
import Derived.WalkKit
import Derived.WalkSpells
import Derived.WalkLawsBesides
import Derived.Lib.Hide
import Derived.Deep.QuietTactic
import Derived.BigQuiet
import Derived.Maps.AppendAt
import Derived.WalkSmall
import Derived.ProofKit
import Derived.OpenShut
import Derived.JoinedCond
import Derived.Deep.Slices
import Derived.Deep.Fields
import Derived.Carry
import Derived.Deep.AppendSrc
import Derived.Lib.AppendStr
import Derived.Laws.BytesArg
import Derived.Test.YtjhndilflcigiaaDoorProg
import Derived.Shelf.Spec.TrailingZeros
import Derived.RangeFuncNested
import Derived.RangeFuncBound
import Derived.RangeFuncCalls
import Derived.RangeFuncLeaves
import Derived.Shelf.Abstract
import Derived.Shelf.RegionOpen
import Derived.OwnWalkIn
import Derived.TacticsInMore
import Derived.LoopNIn
import Derived.LoopIn
import Derived.Test.YtjhndilflcigiaaDoorTie
import Derived.Lib.LaidTab
import Derived.LaidMore
import Derived.SevenTiedAt
import Derived.Test.YtjhndilflcigiaaDoorCards
import Derived.Laws.Tables
import Derived.Laws.Rows
import Derived.Maps.Own
import Derived.Deep.CutBlock
import Derived.Deep.DeepCutAuto
import Derived.ChangeKeysEq
import Derived.Laws.StructEq
import Derived.Laws.CopyOwn
import Derived.Outline
import Derived.IntWalk
import Derived.Lib.EndianBits
import Derived.Lib.AppendZeros
import Derived.WalkMore
import Derived.StillTail
import Derived.Deep.Quiet
namespace Go.Proofs.YtjhndilflcigiaaDoor
open Go.RowKit

/-- A world behind the making of two blocks, in which they are as they were made. -/
def At2 (w w' : World) (cs ds : Array Value) : Prop := Below w.heap.size w w' ∧ Blk w' w.heap.size cs ∧ Blk w' (w.heap.size + 1) ds
theorem At2.new (w : World) (s t : TypeId) (cs ds : Array Value) : At2 w ((w.alloc (.cells cs s)).alloc (.cells ds t)) cs ds := by
  have h := (At.new w s cs).alloc (.cells ds t)
  refine ⟨h.1, h.2, ?_⟩
  have := Blk.new (w.alloc (.cells cs s)) t ds
  simpa using this
theorem At2.step {w w1 w2 : World} {cs ds : Array Value} (h : At2 w w1 cs ds) (hb : Below w1.heap.size w1 w2) : At2 w w2 cs ds := ⟨h.1.trans (hb.mono h.1.size), h.2.1.below hb h.2.1.lt, h.2.2.below hb h.2.2.lt⟩
end Go.Proofs.YtjhndilflcigiaaDoor
namespace Go.Proofs.YtjhndilflcigiaaDoor
open Go.RowKit

def joined (op : Int) (l : List Node) : List Node := ⟨op, 0, ⟨0, 0, []⟩⟩ :: l
theorem Tree.ahead {a : List Node} {d : Nat} (h : Tree a d) (q : List Node) : Trees 1 (a ++ q) q d := by
  obtain ⟨p, hp, hq⟩ := Trees.behind h
  rw [List.append_nil] at hp
  subst hp
  exact hq q
end Go.Proofs.YtjhndilflcigiaaDoor
namespace Go.Proofs.YtjhndilflcigiaaDoor
open Go.RowKit

theorem neq_node (x y : Node) (w : World) (h : x ≠ y) : (binOp .neq 132 x.val y.val).run Tryd.prog w = .ok (.bool true) w := by
  obtain ⟨o1, n1, k1, m1, s1⟩ := x
  obtain ⟨o2, n2, k2, m2, s2⟩ := y
  unfold Node.val
  by_cases h1 : o1 = o2
  · by_cases h2 : n1 = n2
    · by_cases h3 : k1 = k2
      · by_cases h4 : m1 = m2
        · have h5 : s1 ≠ s2 := fun e => h (by rw [h1, h2, h3, h4, e])
          have h7 : str s1 ≠ str s2 := fun e => h5 (str_inj e)
          simp [go_sem, h1, h2, h3, h4, h5]
        · simp [go_sem, h1, h2, h3, h4]
      · simp [go_sem, h1, h2, h3]
    · simp [go_sem, h1, h2]
  · simp [go_sem, h1]
set_option maxHeartbeats 400000 in
theorem c_ref10_Same (l1 l2 : List Node) (A1 A2 : Option Addr) (c1 c2 : Nat) (w : World) (h1 : InN w A1 c1 l1) (h2 : InN w A2 c2 l2) :
    Calls Tryd.prog 46 #[.slice A1 l1.length c1, .slice A2 l2.length c2] w (RetV w (.bool (decide (l1 = l2)))) := by
  have hL1 := h1.1
  have hC1 := h1.2.1
  have hS1 := h1.2.2.1
  have hL2 := h2.1
  have hC2 := h2.2.1
  have hS2 := h2.2.2.1
  by_cases hlen : l1.length = l2.length
  case neg =>
    have H : Hid (false = decide (l1 = l2)) := by
      show _ = _
      symm
      rw [decide_eq_false_iff_not]
      exact fun e => hlen (by rw [e])
    go_enter Tryd.func46, Tryd.ntmps46
    go_wp2_with (fail)
    go_ret
    exact RetV.bool H.out (by repeat (first | exact Below.refl _ _ | refine Below.drew ?_ | refine Below.alloc ?_ (by first | omega | (simp; done) | (simp; omega)) _ | refine Below.setCell ?_ (by first | omega | (simp; done) | (simp; omega)) _ | refine Below.trans ?_ (Below.mono (by assumption) (by first | omega | (simp; done) | (simp; omega)))))
  have hd : ((l1.length : Int) != (l2.length : Int)) = false := by rw [hlen]; simp
  have HL := Lib.hid hlen
  clear hlen
  go_enter Tryd.func46, Tryd.ntmps46
  go_wp2_with (fail)
  go_loopw [5] (fun i wr => ∃ k : Nat, k ≤ l1.length ∧ i = .int .i64 k ∧ Hid (decide (l1.drop k = l2.drop k) = decide (l1 = l2)) ∧ Below w.heap.size w wr) (fun i _ => l1.length - (intOf i).toNat)
  case atStart => exact ⟨0, by omega, rfl, by simp [Hid], Below.refl _ _⟩
  case round =>
    obtain ⟨k, hk, rfl, H, hbl⟩ := hrel
    have hbz := hbl.size
    by_cases hlt : k < l1.length
    · have hlt2 : k < l2.length := by have := HL.out; omega
      obtain ⟨b1, off1, rfl, hb1, hrow1⟩ := h1.at hlt
      obtain ⟨b2, off2, rfl, hb2, hrow2⟩ := h2.at hlt2
      obtain ⟨e0, e1, e2, e3, e4⟩ := (hrow1.below hbl hb1).node hlt rfl
      obtain ⟨f0, f1, f2, f3, f4⟩ := (hrow2.below hbl hb2).node hlt2 rfl
      have hbr1 : b1 < wr.heap.size := by omega
      have hbr2 : b2 < wr.heap.size := by omega
      have hi1 : (0 : Int) ≤ (k : Int) := by omega
      have hi2 : (k : Int) < (l1.length : Int) := by omega
      have hi3 : (k : Int) < (l2.length : Int) := by omega
      have hH := H.out
      rw [List.drop_eq_getElem_cons hlt, List.drop_eq_getElem_cons hlt2] at hH
      clear h1 h2 H
      by_cases hx : l1[k] = l2[k]
      · have HN : Hid (decide (l1.drop (k + 1) = l2.drop (k + 1)) = decide (l1 = l2)) := by show _ = _; rw [← hH, hx]; simp only [List.cons.injEq, true_and]
        rw [← hx] at f0 f1 f2 f3 f4
        clear hH hx
        go_wp2_with (fail)
        refine wp_region_grow (by kernel_rfl) (by kernel_rfl) ?_
        repeat (quiet_step ((first | fail)))
        refine wpQuiet_nil ?_
        intro w2 hb2
        go_wp2_with (fail)
        go_roundw
        case rel => exact ⟨k + 1, by omega, by go_num, HN.out, (by repeat (first | exact Below.refl _ _ | refine Below.drew ?_ | refine Below.alloc ?_ (by first | omega | (simp; done) | (simp; omega)) _ | refine Below.setCell ?_ (by first | omega | (simp; done) | (simp; omega)) _ | refine Below.trans ?_ (Below.mono (by assumption) (by first | omega | (simp; done) | (simp; omega)))))⟩
        case measure => simp [intOf]; omega
      · have HN : Hid (false = decide (l1 = l2)) := by show _ = _; rw [← hH]; symm; rw [decide_eq_false_iff_not]; intro e; injection e with e; exact hx e
        have kn := fun w => neq_node l1[k] l2[k] w hx
        clear hH
        go_wp2_with (fail)
        refine wp_region_grow (by kernel_rfl) (by kernel_rfl) ?_
        repeat (quiet_step ((first | fail)))
        refine wpQuiet_nil ?_
        intro w2 hb2
        go_wp2_with (fail)
        go_ret
        exact RetV.bool HN.out (by repeat (first | exact Below.refl _ _ | refine Below.drew ?_ | refine Below.alloc ?_ (by first | omega | (simp; done) | (simp; omega)) _ | refine Below.setCell ?_ (by first | omega | (simp; done) | (simp; omega)) _ | refine Below.trans ?_ (Below.mono (by assumption) (by first | omega | (simp; done) | (simp; omega)))))
    · have hH := H.out
      rw [List.drop_of_length_le (by omega), List.drop_of_length_le (by have := HL.out; omega)] at hH
      have HN : Hid (true = decide (l1 = l2)) := by show _ = _; rw [← hH]; simp
      clear hH H
      go_wp2_with (fail)
      go_ret
      exact RetV.bool HN.out hbl
end Go.Proofs.YtjhndilflcigiaaDoor
namespace Go.Proofs.YtjhndilflcigiaaDoor
open Go.RowKit

theorem InN.lit (w : World) (l : List Node) (t : TypeId) (n : Nat) (hn : n = l.length) (hl : l.length ≤ 4294967296) : InN (w.alloc (.cells (l.flatMap Node.cells).toArray t)) (some ⟨w.heap.size, 0, none⟩) n l := by
  subst hn
  refine ⟨Nat.le_refl _, by omega, hl, .inr ⟨_, 0, rfl, by simp, fun i hi j u hu => ?_⟩⟩
  have hj : j < 5 := by rw [← Node.cells_len l[i]]; exact (List.getElem?_eq_some_iff.1 hu).1
  rw [World.cell?_alloc_new, Nat.zero_add]
  have := flat_get (k := 5) Node.cells_len l i hi j hj
  rw [List.getElem?_toArray, this]; exact hu
end Go.Proofs.YtjhndilflcigiaaDoor
namespace Go.Proofs.YtjhndilflcigiaaDoor
open Go.RowKit

theorem In.lit {α : Type} {k : Nat} {cs : α → List Value} (hk : ∀ x, (cs x).length = k) (w : World) (l : List α) (t : TypeId) (n : Nat) (hn : n = l.length) (hl : l.length ≤ 4294967296) : In k cs (w.alloc (.cells (l.flatMap cs).toArray t)) (some ⟨w.heap.size, 0, none⟩) n l := by
  subst hn
  refine ⟨Nat.le_refl _, by omega, hl, .inr ⟨_, 0, rfl, by simp, fun i hi j u hu => ?_⟩⟩
  have hj : j < k := by rw [← hk l[i]]; exact (List.getElem?_eq_some_iff.1 hu).1
  rw [World.cell?_alloc_new, Nat.zero_add]
  have := flat_get (k := k) hk l i hi j hj
  rw [List.getElem?_toArray, this]; exact hu
end Go.Proofs.YtjhndilflcigiaaDoor
namespace Go.Proofs.YtjhndilflcigiaaDoor
open Go.RowKit

theorem Cmd.eq_all (a b : Cmd) : decide (a = b) = ((a.kind == b.kind) && (decide (a.e = b.e) && ((a.dev == b.dev) && ((a.req == b.req) && ((a.id == b.id) && ((a.base == b.base) && ((a.keep == b.keep) && (decide (a.p = b.p) && (decide (a.f = b.f) && ((a.mask : Int) == (b.mask : Int))))))))))) := by
  rw [Bool.eq_iff_iff]
  obtain ⟨a0, a1, a2, a3, a4, a5, a6, a7, a8, a9⟩ := a
  obtain ⟨b0, b1, b2, b3, b4, b5, b6, b7, b8, b9⟩ := b
  simp only [decide_eq_true_eq, Cmd.mk.injEq, Bool.and_eq_true, beq_iff_eq, Int.natCast_inj]
/-- Two commands' blocks. -/
structure C2 (w w' : World) (a b : Cmd) (A B : Option Addr) (n m : Nat) : Prop where
  below : Below w.heap.size w w'
  a : Blk w' w.heap.size (a.arr A n)
  b : Blk w' (w.heap.size + 1) (b.arr B m)
theorem C2.step {w w1 w2 : World} {a b : Cmd} {A B : Option Addr} {n m : Nat} (h : C2 w w1 a b A B n m) (hb : Below w1.heap.size w1 w2) : C2 w w2 a b A B n m := ⟨h.below.trans (hb.mono h.below.size), h.a.below hb h.a.lt, h.b.below hb h.b.lt⟩
theorem C2.new (w : World) (s t : TypeId) (a b : Cmd) (A B : Option Addr) (n m : Nat) : C2 w ((w.alloc (.cells (a.arr A n) s)).alloc (.cells (b.arr B m) t)) a b A B n m := by
  obtain ⟨h1, h2, h3⟩ := At2.new w s t (a.arr A n) (b.arr B m)
  exact ⟨h1, h2, h3⟩
set_option maxHeartbeats 4000000 in
set_option maxRecDepth 4000 in
theorem c_ref33_Same (a b : Cmd) (A B : Option Addr) (n m : Nat) (w : World) (hwa : a.wf) (hwb : b.wf) (hia : InN w A n a.f) (hib : InN w B m b.f) :
    Calls Tryd.prog 14 #[.agg (a.arr A n), .agg (b.arr B m)] w (RetV w (.bool (decide (a = b)))) := by
  have B0 := Lib.hid (C2.new w 32 32 a b A B n m)
  have ha := Lib.hid hwa
  have hb := Lib.hid hwb
  have HA := Lib.hid hia
  have HB := Lib.hid hib
  have E := Lib.hid (Cmd.eq_all a b)
  obtain ⟨p0, p1, p2, p3, p4, p5, p6, p7⟩ := cmd_cells ha.out B0.out.a; obtain ⟨q0, q1, q2, q3, q4, q5, q6, q7⟩ := cmd_cells hb.out B0.out.b
  clear hwa hwb hia hib
  cases hk : (a.kind == b.kind)
  case false =>
    go_enter Tryd.func14, Tryd.ntmps14
    simp only [List.append_eq, List.cons_append, List.nil_append]
    go_wp2_with (fail)
    go_ret
    refine RetV.bool ?_ B0.out.below
    rw [E.out, hk]
    rfl
  case true =>
    have hkk := Lib.hid hk
    rw [eq_of_beq hk] at p0
    clear hk
    cases he : decide (a.e = b.e)
    all_goals
      have EE := Lib.hid he
      clear he
    case false =>
      go_enter Tryd.func14, Tryd.ntmps14
      simp only [List.append_eq, List.cons_append, List.nil_append]
      go_wp2_with (with_reducible refine stop_loadG 29 (.tmp 11) rfl ?_)
      refine Stop.mk (wpList_loadAtG (by rfl) _ _ rfl w.heap.size 1 rfl a.e.arr (cmd_edit ha.out B0.out.a) strE (by rw [Edit.arr_size, (ha.out).e]) ?_)
      go_wp2_with (with_reducible refine stop_loadG 29 (.tmp 13) rfl ?_)
      refine Stop.mk (wpList_loadAtG (by rfl) _ _ rfl (w.heap.size + 1) 1 rfl b.e.arr (cmd_edit hb.out B0.out.b) strE (by rw [Edit.arr_size, (hb.out).e]) ?_)
      go_wp2_with (with_reducible refine stop_bin .eql 29 (.tmp 12) (.tmp 14) 29 rfl ?_)
      refine Stop.mk (wpList_eqlS (by rfl) _ _ _ _ rfl a.e.arr b.e.arr rfl rfl gE false ((eq_edit ha.out.e hb.out.e 9995 _).trans (by rw [EE.out])) ?_)
      go_wp2_with (fail)
      go_ret
      refine RetV.bool ?_ B0.out.below
      rw [E.out, EE.out]
      simp
    case true =>
      cases hi : ((a.dev == b.dev) && ((a.req == b.req) && ((a.id == b.id) && ((a.base == b.base) && (a.keep == b.keep)))))
      case false =>
        have HI := Lib.hid hi
        go_enter Tryd.func14, Tryd.ntmps14
        simp only [List.append_eq, List.cons_append, List.nil_append]
        go_wp2_with (with_reducible refine stop_loadG 29 (.tmp 11) rfl ?_)
        refine Stop.mk (wpList_loadAtG (by rfl) _ _ rfl w.heap.size 1 rfl a.e.arr (cmd_edit ha.out B0.out.a) strE (by rw [Edit.arr_size, (ha.out).e]) ?_)
        go_wp2_with (with_reducible refine stop_loadG 29 (.tmp 13) rfl ?_)
        refine Stop.mk (wpList_loadAtG (by rfl) _ _ rfl (w.heap.size + 1) 1 rfl b.e.arr (cmd_edit hb.out B0.out.b) strE (by rw [Edit.arr_size, (hb.out).e]) ?_)
        go_wp2_with (with_reducible refine stop_bin .eql 29 (.tmp 12) (.tmp 14) 29 rfl ?_)
        refine Stop.mk (wpList_eqlS (by rfl) _ _ _ _ rfl a.e.arr b.e.arr rfl rfl gE true ((eq_edit ha.out.e hb.out.e 9995 _).trans (by rw [EE.out])) ?_)
        clear hi
        go_wp2_with (fail)
        all_goals first
          | (go_ret
             refine RetV.bool ?_ B0.out.below
             rw [E.out, EE.out, hkk.out]
             simp [*]
             done)
          | (exfalso
             have := HI.out
             simp_all
             done)
      case true =>
        obtain ⟨i1, i2, i3, i4, i5⟩ : (a.dev == b.dev) = true ∧ (a.req == b.req) = true ∧ (a.id == b.id) = true ∧ (a.base == b.base) = true ∧ (a.keep == b.keep) = true := by simpa only [Bool.and_eq_true] using hi
        rw [eq_of_beq i1] at p1
        rw [eq_of_beq i2] at p2
        rw [eq_of_beq i3] at p3
        rw [eq_of_beq i4] at p4
        rw [eq_of_beq i5] at p5
        have I1 := Lib.hid i1
        have I2 := Lib.hid i2
        have I3 := Lib.hid i3
        have I4 := Lib.hid i4
        have I5 := Lib.hid i5
        clear hi i1 i2 i3 i4 i5
        obtain ⟨q, hq⟩ : ∃ q, q = decide (a.p = b.p) := ⟨_, rfl⟩
        have EP := Lib.hid hq
        clear hq
        go_enter Tryd.func14, Tryd.ntmps14
        simp only [List.append_eq, List.cons_append, List.nil_append]
        go_wp2_with (with_reducible refine stop_loadG 29 (.tmp 11) rfl ?_)
        refine Stop.mk (wpList_loadAtG (by rfl) _ _ rfl w.heap.size 1 rfl a.e.arr (cmd_edit ha.out B0.out.a) strE (by rw [Edit.arr_size, (ha.out).e]) ?_)
        go_wp2_with (with_reducible refine stop_loadG 29 (.tmp 13) rfl ?_)
        refine Stop.mk (wpList_loadAtG (by rfl) _ _ rfl (w.heap.size + 1) 1 rfl b.e.arr (cmd_edit hb.out B0.out.b) strE (by rw [Edit.arr_size, (hb.out).e]) ?_)
        go_wp2_with (with_reducible refine stop_bin .eql 29 (.tmp 12) (.tmp 14) 29 rfl ?_)
        refine Stop.mk (wpList_eqlS (by rfl) _ _ _ _ rfl a.e.arr b.e.arr rfl rfl gE true ((eq_edit ha.out.e hb.out.e 9995 _).trans (by rw [EE.out])) ?_)
        go_wp2_with (with_reducible refine stop_loadG 27 (.tmp 53) rfl ?_)
        refine Stop.mk (wpList_loadAtG (by rfl) _ _ rfl w.heap.size 35 rfl a.p.arr (cmd_patch ha.out B0.out.a) strP (by rw [Patch.arr_size, (ha.out).p]) ?_)
        go_wp2_with (with_reducible refine stop_loadG 27 (.tmp 55) rfl ?_)
        refine Stop.mk (wpList_loadAtG (by rfl) _ _ rfl (w.heap.size + 1) 35 rfl b.p.arr (cmd_patch hb.out B0.out.b) strP (by rw [Patch.arr_size, (hb.out).p]) ?_)
        go_wp2_with (with_reducible refine stop_bin .eql 27 (.tmp 54) (.tmp 56) 27 rfl ?_)
        refine Stop.mk (wpList_eqlS (by rfl) _ _ _ _ rfl a.p.arr b.p.arr rfl rfl gP q ((eq_patch ha.out.p hb.out.p 9996 _).trans (by rw [EP.out])) ?_)
        cases q
        all_goals
          go_wp2_with (go_at_call 46; refine (c_ref10_Same a.f b.f A B n m _ (HA.out.below B0.out.below) (HB.out.below B0.out.below)).mono ?_; rintro e w1 ⟨rfl, hb1⟩; replace B0 := Lib.hid (B0.out.step hb1); clear p0 p1 p2 p3 p4 p5 p6 p7 q0 q1 q2 q3 q4 q5 q6 q7 hb1; obtain ⟨p0, p1, p2, p3, p4, p5, p6, p7⟩ := cmd_cells ha.out B0.out.a; obtain ⟨q0, q1, q2, q3, q4, q5, q6, q7⟩ := cmd_cells hb.out B0.out.b)
        all_goals
          go_ret
          refine RetV.bool ?_ B0.out.below
          rw [E.out, EE.out, ← EP.out, hkk.out, I1.out, I2.out, I3.out, I4.out, I5.out]
          simp [*]
end Go.Proofs.YtjhndilflcigiaaDoor
namespace Go.Proofs.YtjhndilflcigiaaDoor
open Go.RowKit

def awakeC : Cmd := ⟨4, ez, 2, 7, 0, 0, 0, pz, [], 0⟩
theorem awakeC_arr : awakeC.arr none 0 = #[.int .i64 4, .int .i64 0, .int .i64 0, .int .i64 0, .int .u32 0, .int .u32 0, .int .i64 0, .int .i64 0, .string (str []), .int .i64 0, .int .i64 0, .string (str []), .int .i64 0, .int .i64 0, .string (str []), .int .i64 0, .int .i64 0, .string (str []), .int .i64 0, .int .i64 0, .string (str []), .int .i64 0, .int .i64 0, .string (str []), .int .i64 0, .int .i64 0, .string (str []), .int .i64 0, .int .i64 0, .string (str []), .int .i64 2, .int .i64 7, .int .i64 0, .int .i64 0, .int .i64 0, .int .u32 0, .int .u32 0, .int .i64 0, .int .i64 0, .string (str []), .int .i64 0, .int .i64 0, .string (str []), .int .i64 0, .int .i64 0, .string (str []), .int .i64 0, .int .i64 0, .string (str []), .int .i64 0, .int .i64 0, .string (str []), .int .i64 0, .int .i64 0, .string (str []), .int .i64 0, .int .i64 0, .string (str []), .int .i64 0, .int .i64 0, .string (str []), .slice none 0 0, .int .u32 0] := by unfold Cmd.arr Edit.arr Patch.arr; rfl
theorem awakeC_put : cmdB awakeC = [4, 2, 7] := by decide +kernel
set_option maxHeartbeats 1000000 in
set_option maxRecDepth 100000 in
theorem c_law33_awake (w : World) (hT : Tab w) : Calls Tryd.prog 10 #[] w (RetV w (.bool true)) := by
  have hp := c_cmdwire_Put [] none 0 awakeC none 0 w (In.nil (by omega)) (by simp) hT ⟨rfl, rfl⟩ ⟨⟨by decide, by decide⟩, ⟨by decide, by decide⟩, ⟨by decide, by decide⟩, ⟨by decide, by decide⟩, ⟨by decide, by decide⟩⟩ (In.nil (by omega)) (by intro x hx; cases hx) (by decide) (by decide) (by decide) (by decide) (by decide)
  rw [awakeC_arr] at hp
  have HP := Lib.hid hp
  clear hp
  go_enter Tryd.func10, Tryd.ntmps10
  go_wp2_with (fail)
  refine HP.out.mono ?_
  rintro e w5 ⟨v5, rfl, own5, hb5⟩
  rw [List.nil_append, awakeC_put] at own5
  obtain ⟨A2, c2, rfl, in2⟩ := In.of_own bc_len own5 (by simp)
  have kc : (convert 33 9 (.slice A2 3 c2)).run Tryd.prog w5 = .ok (.string (str [4, 2, 7])) w5 := conv_str w5 Tryd.underlying33 Tryd.underlying5 Tryd.underlying9 in2
  clear own5 in2
  go_wp2_with (fail)
  go_ret
  exact RetV.bool rfl hb5
end Go.Proofs.YtjhndilflcigiaaDoor
